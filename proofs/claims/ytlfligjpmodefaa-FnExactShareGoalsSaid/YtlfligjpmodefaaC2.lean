/- The walks, printed by program: whenever the model gives r, the call returns r. Part 2. -/
import Derived.Test.YtlfligjpmodefaaM
import Derived.Test.YtlfligjpmodefaaProg
import Derived.Test.YtlfligjpmodefaaC1
set_option linter.unusedVariables false
set_option maxRecDepth 100000
set_option maxHeartbeats 4000000
namespace Go.Proofs.Ytlfligjpmodefaa
open Go.Gx
theorem c_l_FnExactGivenFrames (w : World) (x2432 : List Int) (p2434 : Option Addr) (c2435 : Nat) (h2436 : rdS encI w x2432 p2434 c2435) (x2437 : List Balloon) (p2439 : Option Addr) (c2440 : Nat) (h2441 : rdD deepBalloon w x2437 p2439 c2440) {r : Bool} (hm : M.l_FnExactGivenFrames x2432 x2437 = some r) :
    Calls Try.prog 4 #[.slice p2434 x2432.length c2435, .slice p2439 x2437.length c2440] w fun e w' => e = .returned (.bool r) ∧ Mem [] w w' [] := by
  unfold M.l_FnExactGivenFrames at hm
  refine C_enter Try.func4 rfl (by kernel_rfl) ?_
  have M0 := Mem.refl [] w
  refine G_seq ?_
  refine G_region ?_
  refine W_run 1 [(0, .slice p2434 x2432.length c2435), (1, .slice p2439 x2437.length c2440)] w (by kernel_rfl) ?_
  refine W_nil ?_
  refine N_then ?_
  refine G_seq ?_
  refine G_seq ?_
  refine G_region ?_
  refine W_run 3 [(0, .slice p2434 x2432.length c2435), (1, .slice p2439 x2437.length c2440), (16, .bool (decide ((x2432.length : Int) > 1048576)))] w (by kernel_rfl) ?_
  refine W_nil ?_
  refine N_then ?_
  rcases gx_bif hm with ⟨hc2442, hm⟩ | ⟨hc2442, hm⟩
  · refine G_cond_t (b := (decide ((x2432.length : Int) > 1048576))) hc2442 (by kernel_rfl) ?_
    refine G_seq ?_
    refine G_region ?_
    refine W_run 1 [(4, .bool true)] w (by kernel_rfl) ?_
    refine W_nil ?_
    refine N_then ?_
    refine G_ret ?_
    refine N_then_ret ?_
    obtain rfl := Option.some.inj hm
    refine N_ret [.bool true] (RVs_cons (RV_tmp (by kernel_rfl)) RVs_nil) ?_
    exact ⟨rfl, M0.pick [] (by kernel_rfl)⟩
  · refine G_cond_f (b := (decide ((x2432.length : Int) > 1048576))) hc2442 (by kernel_rfl) ?_
    refine G_skip ?_
    refine N_then ?_
    refine G_seq ?_
    refine G_region ?_
    refine W_run 1 [(0, .slice p2434 x2432.length c2435), (1, .slice p2439 x2437.length c2440), (5, .int .i64 1048576)] w (by kernel_rfl) ?_
    refine W_nil ?_
    refine N_then ?_
    refine G_seq ?_
    refine G_region ?_
    refine W_run 2 [(0, .slice p2434 x2432.length c2435), (1, .slice p2439 x2437.length c2440), (5, .int .i64 1048576), (17, .slice p2439 x2437.length c2440), (18, .int .i64 1048576)] w (by kernel_rfl) ?_
    obtain ⟨r2443, hr2443, hm⟩ := gx_bind hm
    refine W_call 13 #[.slice p2439 x2437.length c2440, .int .i64 1048576] (by kernel_rfl) (by kernel_rfl) ?_
    refine (c_l_szBalloonS w x2437 p2439 c2440 (h2441.mem0 M0) 1048576 hr2443).mono ?_
    rintro e_ w2444 ⟨rfl, K2445⟩
    have M2446 := M0.call0 K2445
    refine ⟨_, rfl, ?_⟩
    refine W_run 1 [(0, .slice p2434 x2432.length c2435), (1, .slice p2439 x2437.length c2440), (5, .int .i64 r2443)] w2444 (by kernel_rfl) ?_
    refine W_nil ?_
    refine N_then ?_
    refine G_seq ?_
    refine G_seq ?_
    refine G_region ?_
    refine W_run 2 [(0, .slice p2434 x2432.length c2435), (1, .slice p2439 x2437.length c2440), (21, .bool (decide (r2443 < 0)))] w2444 (by kernel_rfl) ?_
    refine W_nil ?_
    refine N_then ?_
    rcases gx_bif hm with ⟨hc2447, hm⟩ | ⟨hc2447, hm⟩
    · refine G_cond_t (b := (decide (r2443 < 0))) hc2447 (by kernel_rfl) ?_
      refine G_seq ?_
      refine G_region ?_
      refine W_run 1 [(4, .bool true)] w2444 (by kernel_rfl) ?_
      refine W_nil ?_
      refine N_then ?_
      refine G_ret ?_
      refine N_then_ret ?_
      obtain rfl := Option.some.inj hm
      refine N_ret [.bool true] (RVs_cons (RV_tmp (by kernel_rfl)) RVs_nil) ?_
      exact ⟨rfl, M2446.pick [] (by kernel_rfl)⟩
    · refine G_cond_f (b := (decide (r2443 < 0))) hc2447 (by kernel_rfl) ?_
      refine G_skip ?_
      refine N_then ?_
      refine G_seq ?_
      refine G_region ?_
      refine W_run 1 [(0, .slice p2434 x2432.length c2435), (1, .slice p2439 x2437.length c2440), (23, .slice p2434 x2432.length c2435)] w2444 (by kernel_rfl) ?_
      obtain ⟨r2448, hr2448, hm⟩ := gx_bind hm
      refine W_call 15 #[.slice p2434 x2432.length c2435] (by kernel_rfl) (by kernel_rfl) ?_
      refine (c_l_toIntS w2444 x2432 p2434 c2435 (h2436.mem0 M2446) hr2448).mono ?_
      rintro e_ w2454 ⟨p2450, c2451, sg2452, rfl, ho2453, K2455⟩
      have M2456 := M2446.call K2455
      refine ⟨_, rfl, ?_⟩
      refine W_run 1 [(0, .slice p2434 x2432.length c2435), (1, .slice p2439 x2437.length c2440), (24, .slice p2450 r2448.length c2451), (25, .slice p2439 x2437.length c2440)] w2454 (by kernel_rfl) ?_
      obtain ⟨r2457, hr2457, hm⟩ := gx_bind hm
      refine W_call 16 #[.slice p2439 x2437.length c2440] (by kernel_rfl) (by kernel_rfl) ?_
      refine (c_l_toBalloonS w2454 x2437 p2439 c2440 (h2441.mem0 M2456) hr2457).mono ?_
      rintro e_ w2464 ⟨p2459, c2460, sg2461, sg2462, rfl, ho2463, K2465⟩
      have M2466 := M2456.call K2465
      refine ⟨_, rfl, ?_⟩
      obtain ⟨r2569, hr2569, hm⟩ := gx_bind hm
      refine W_call 20 #[.slice p2450 r2448.length c2451, .slice p2459 r2457.length c2460] (by kernel_rfl) (by kernel_rfl) ?_
      refine (c_s_GivenFrames w2464 r2448 p2450 c2451 (ho2453.rd M2466 0 (by kernel_rfl)) r2457 p2459 c2460 (ho2463.rd M2466 1 (by kernel_rfl) 2 (by kernel_rfl)) hr2569).mono ?_
      rintro e_ w2570 ⟨rfl, K2571⟩
      have M2572 := M2466.call0 K2571
      refine ⟨_, rfl, ?_⟩
      refine W_run 7 [(0, .slice p2434 x2432.length c2435), (1, .slice p2439 x2437.length c2440), (6, .int .i64 r2569.1), (7, .int .i64 r2569.2.1), (8, .bool r2569.2.2)] w2570 (by kernel_rfl) ?_
      refine W_nil ?_
      refine N_then ?_
      refine G_seq ?_
      refine G_region ?_
      refine W_run 1 [(0, .slice p2434 x2432.length c2435), (1, .slice p2439 x2437.length c2440), (6, .int .i64 r2569.1), (7, .int .i64 r2569.2.1), (8, .bool r2569.2.2), (31, .slice p2434 x2432.length c2435)] w2570 (by kernel_rfl) ?_
      obtain ⟨r2573, hr2573, hm⟩ := gx_bind hm
      refine W_call 15 #[.slice p2434 x2432.length c2435] (by kernel_rfl) (by kernel_rfl) ?_
      refine (c_l_toIntS w2570 x2432 p2434 c2435 (h2436.mem0 M2572) hr2573).mono ?_
      rintro e_ w2579 ⟨p2575, c2576, sg2577, rfl, ho2578, K2580⟩
      have M2581 := M2572.call K2580
      refine ⟨_, rfl, ?_⟩
      refine W_run 1 [(0, .slice p2434 x2432.length c2435), (1, .slice p2439 x2437.length c2440), (6, .int .i64 r2569.1), (7, .int .i64 r2569.2.1), (8, .bool r2569.2.2), (9, .slice p2575 r2573.length c2576)] w2579 (by kernel_rfl) ?_
      refine W_nil ?_
      refine N_then ?_
      refine G_seq ?_
      refine G_region ?_
      refine W_run 1 [(0, .slice p2434 x2432.length c2435), (1, .slice p2439 x2437.length c2440), (6, .int .i64 r2569.1), (7, .int .i64 r2569.2.1), (8, .bool r2569.2.2), (9, .slice p2575 r2573.length c2576), (33, .slice p2439 x2437.length c2440)] w2579 (by kernel_rfl) ?_
      obtain ⟨r2582, hr2582, hm⟩ := gx_bind hm
      refine W_call 16 #[.slice p2439 x2437.length c2440] (by kernel_rfl) (by kernel_rfl) ?_
      refine (c_l_toBalloonS w2579 x2437 p2439 c2440 (h2441.mem0 M2581) hr2582).mono ?_
      rintro e_ w2589 ⟨p2584, c2585, sg2586, sg2587, rfl, ho2588, K2590⟩
      have M2591 := M2581.call K2590
      refine ⟨_, rfl, ?_⟩
      refine W_run 1 [(0, .slice p2434 x2432.length c2435), (1, .slice p2439 x2437.length c2440), (6, .int .i64 r2569.1), (7, .int .i64 r2569.2.1), (8, .bool r2569.2.2), (9, .slice p2575 r2573.length c2576), (10, .slice p2584 r2582.length c2585)] w2589 (by kernel_rfl) ?_
      refine W_nil ?_
      refine N_then ?_
      refine G_seq ?_
      refine G_region ?_
      refine W_run 2 [(0, .slice p2434 x2432.length c2435), (1, .slice p2439 x2437.length c2440), (6, .int .i64 r2569.1), (7, .int .i64 r2569.2.1), (8, .bool r2569.2.2), (9, .slice p2575 r2573.length c2576), (10, .slice p2584 r2582.length c2585), (36, .slice p2575 r2573.length c2576), (37, .slice p2584 r2582.length c2585)] w2589 (by kernel_rfl) ?_
      obtain ⟨r2670, hr2670, hm⟩ := gx_bind hm
      refine W_call 21 #[.slice p2575 r2573.length c2576, .slice p2584 r2582.length c2585] (by kernel_rfl) (by kernel_rfl) ?_
      refine (c_i_GivenFrames w2589 r2573 p2575 c2576 (ho2578.rd M2591 3 (by kernel_rfl)) r2582 p2584 c2585 (ho2588.rd M2591 4 (by kernel_rfl) 5 (by kernel_rfl)) hr2670).mono ?_
      rintro e_ w2671 ⟨rfl, K2672⟩
      have M2673 := M2591.call0 K2672
      refine ⟨_, rfl, ?_⟩
      refine W_run 7 [(0, .slice p2434 x2432.length c2435), (1, .slice p2439 x2437.length c2440), (6, .int .i64 r2569.1), (7, .int .i64 r2569.2.1), (8, .bool r2569.2.2), (9, .slice p2575 r2573.length c2576), (10, .slice p2584 r2582.length c2585), (11, .int .i64 r2670.1), (12, .int .i64 r2670.2.1), (13, .bool r2670.2.2)] w2671 (by kernel_rfl) ?_
      refine W_nil ?_
      refine N_then ?_
      refine G_seq ?_
      refine G_seq ?_
      obtain ⟨o2676, ho2677, hm2678⟩ := gx_bind hm
      refine G_meet (fun a w' => Mem [] w w' [sg2577, sg2586, sg2587] ∧ Sat Try.f4.ntmps [(0, .slice p2434 x2432.length c2435), (1, .slice p2439 x2437.length c2440), (9, .slice p2575 r2573.length c2576), (10, .slice p2584 r2582.length c2585), (54, .bool o2676)] a) ?_ ?_
      · have hm := ho2677
        refine G_region ?_
        refine W_run 4 [(0, .slice p2434 x2432.length c2435), (1, .slice p2439 x2437.length c2440), (7, .int .i64 r2569.2.1), (8, .bool r2569.2.2), (9, .slice p2575 r2573.length c2576), (10, .slice p2584 r2582.length c2585), (12, .int .i64 r2670.2.1), (13, .bool r2670.2.2), (45, .bool (r2670.1 != r2569.1))] w2671 (by kernel_rfl) ?_
        rcases gx_bif hm with ⟨hc2679, hm⟩ | ⟨hc2679, hm⟩
        · refine W_known 45 true (by kernel_rfl) hc2679 ?_
          refine W_run 9 [(0, .slice p2434 x2432.length c2435), (1, .slice p2439 x2437.length c2440), (9, .slice p2575 r2573.length c2576), (10, .slice p2584 r2582.length c2585), (54, .bool true)] w2671 (by kernel_rfl) ?_
          refine W_nil ?_
          obtain rfl := Option.some.inj hm
          exact N_meet fun a ha => ⟨M2673.pick [3, 4, 5] (by kernel_rfl), ha.sub (by kernel_rfl)⟩
        · refine W_known 45 false (by kernel_rfl) hc2679 ?_
          refine W_run 5 [(0, .slice p2434 x2432.length c2435), (1, .slice p2439 x2437.length c2440), (8, .bool r2569.2.2), (9, .slice p2575 r2573.length c2576), (10, .slice p2584 r2582.length c2585), (13, .bool r2670.2.2), (50, .bool (r2670.2.1 != r2569.2.1))] w2671 (by kernel_rfl) ?_
          rcases gx_bif hm with ⟨hc2680, hm⟩ | ⟨hc2680, hm⟩
          · refine W_known 50 true (by kernel_rfl) hc2680 ?_
            refine W_run 4 [(0, .slice p2434 x2432.length c2435), (1, .slice p2439 x2437.length c2440), (9, .slice p2575 r2573.length c2576), (10, .slice p2584 r2582.length c2585), (54, .bool true)] w2671 (by kernel_rfl) ?_
            refine W_nil ?_
            obtain rfl := Option.some.inj hm
            exact N_meet fun a ha => ⟨M2673.pick [3, 4, 5] (by kernel_rfl), ha.sub (by kernel_rfl)⟩
          · refine W_known 50 false (by kernel_rfl) hc2680 ?_
            refine W_run 4 [(0, .slice p2434 x2432.length c2435), (1, .slice p2439 x2437.length c2440), (9, .slice p2575 r2573.length c2576), (10, .slice p2584 r2582.length c2585), (54, .bool (!(r2670.2.2 == r2569.2.2)))] w2671 (by kernel_rfl) ?_
            refine W_nil ?_
            obtain rfl := Option.some.inj hm
            exact N_meet fun a ha => ⟨M2673.pick [3, 4, 5] (by kernel_rfl), ha.sub (by kernel_rfl)⟩
      · intro a2683 w2681 ⟨M2682, hS2684⟩
        refine N_use hS2684 ?_
        have hm := hm2678
        refine N_then ?_
        rcases gx_bif hm with ⟨hc2685, hm⟩ | ⟨hc2685, hm⟩
        · refine G_cond_t (b := o2676) hc2685 (by kernel_rfl) ?_
          refine G_seq ?_
          refine G_region ?_
          refine W_run 1 [(4, .bool false)] w2681 (by kernel_rfl) ?_
          refine W_nil ?_
          refine N_then ?_
          refine G_ret ?_
          refine N_then_ret ?_
          obtain rfl := Option.some.inj hm
          refine N_ret [.bool false] (RVs_cons (RV_tmp (by kernel_rfl)) RVs_nil) ?_
          exact ⟨rfl, M2682.pick [] (by kernel_rfl)⟩
        · refine G_cond_f (b := o2676) hc2685 (by kernel_rfl) ?_
          refine G_skip ?_
          refine N_then ?_
          refine G_seq ?_
          refine G_seq ?_
          refine G_region ?_
          refine W_run 2 [(1, .slice p2439 x2437.length c2440), (10, .slice p2584 r2582.length c2585), (55, .slice p2575 r2573.length c2576), (56, .slice p2434 x2432.length c2435)] w2681 (by kernel_rfl) ?_
          obtain ⟨r2686, hr2686, hm⟩ := gx_bind hm
          refine W_call 15 #[.slice p2434 x2432.length c2435] (by kernel_rfl) (by kernel_rfl) ?_
          refine (c_l_toIntS w2681 x2432 p2434 c2435 (h2436.mem0 M2682) hr2686).mono ?_
          rintro e_ w2692 ⟨p2688, c2689, sg2690, rfl, ho2691, K2693⟩
          have M2694 := M2682.call K2693
          refine ⟨_, rfl, ?_⟩
          obtain ⟨r2695, hr2695, hm⟩ := gx_bind hm
          refine W_call 18 #[.slice p2575 r2573.length c2576, .slice p2688 r2686.length c2689] (by kernel_rfl) (by kernel_rfl) ?_
          refine (c_l_eqIntS w2692 r2573 p2575 c2576 (ho2578.rd M2694 0 (by kernel_rfl)) r2686 p2688 c2689 (ho2691.rd M2694 3 (by kernel_rfl)) hr2695).mono ?_
          rintro e_ w2696 ⟨rfl, K2697⟩
          have M2698 := M2694.call0 K2697
          refine ⟨_, rfl, ?_⟩
          refine W_run 1 [(1, .slice p2439 x2437.length c2440), (10, .slice p2584 r2582.length c2585), (59, .bool (!r2695))] w2696 (by kernel_rfl) ?_
          refine W_nil ?_
          refine N_then ?_
          rcases gx_bif hm with ⟨hc2699, hm⟩ | ⟨hc2699, hm⟩
          · refine G_cond_t (b := (!r2695)) hc2699 (by kernel_rfl) ?_
            refine G_seq ?_
            refine G_region ?_
            refine W_run 1 [(4, .bool false)] w2696 (by kernel_rfl) ?_
            refine W_nil ?_
            refine N_then ?_
            refine G_ret ?_
            refine N_then_ret ?_
            obtain rfl := Option.some.inj hm
            refine N_ret [.bool false] (RVs_cons (RV_tmp (by kernel_rfl)) RVs_nil) ?_
            exact ⟨rfl, M2698.pick [] (by kernel_rfl)⟩
          · refine G_cond_f (b := (!r2695)) hc2699 (by kernel_rfl) ?_
            refine G_skip ?_
            refine N_then ?_
            refine G_seq ?_
            refine G_seq ?_
            refine G_region ?_
            refine W_run 2 [(60, .slice p2584 r2582.length c2585), (61, .slice p2439 x2437.length c2440)] w2696 (by kernel_rfl) ?_
            obtain ⟨r2700, hr2700, hm⟩ := gx_bind hm
            refine W_call 16 #[.slice p2439 x2437.length c2440] (by kernel_rfl) (by kernel_rfl) ?_
            refine (c_l_toBalloonS w2696 x2437 p2439 c2440 (h2441.mem0 M2698) hr2700).mono ?_
            rintro e_ w2707 ⟨p2702, c2703, sg2704, sg2705, rfl, ho2706, K2708⟩
            have M2709 := M2698.call K2708
            refine ⟨_, rfl, ?_⟩
            obtain ⟨r2710, hr2710, hm⟩ := gx_bind hm
            refine W_call 19 #[.slice p2584 r2582.length c2585, .slice p2702 r2700.length c2703] (by kernel_rfl) (by kernel_rfl) ?_
            refine (c_l_eqBalloonS w2707 r2582 p2584 c2585 (ho2588.rd M2709 1 (by kernel_rfl) 2 (by kernel_rfl)) r2700 p2702 c2703 (ho2706.rd M2709 4 (by kernel_rfl) 5 (by kernel_rfl)) hr2710).mono ?_
            rintro e_ w2711 ⟨rfl, K2712⟩
            have M2713 := M2709.call0 K2712
            refine ⟨_, rfl, ?_⟩
            refine W_run 1 [(64, .bool (!r2710))] w2711 (by kernel_rfl) ?_
            refine W_nil ?_
            refine N_then ?_
            rcases gx_bif hm with ⟨hc2714, hm⟩ | ⟨hc2714, hm⟩
            · refine G_cond_t (b := (!r2710)) hc2714 (by kernel_rfl) ?_
              refine G_seq ?_
              refine G_region ?_
              refine W_run 1 [(4, .bool false)] w2711 (by kernel_rfl) ?_
              refine W_nil ?_
              refine N_then ?_
              refine G_ret ?_
              refine N_then_ret ?_
              obtain rfl := Option.some.inj hm
              refine N_ret [.bool false] (RVs_cons (RV_tmp (by kernel_rfl)) RVs_nil) ?_
              exact ⟨rfl, M2713.pick [] (by kernel_rfl)⟩
            · refine G_cond_f (b := (!r2710)) hc2714 (by kernel_rfl) ?_
              refine G_skip ?_
              refine N_then ?_
              refine G_seq ?_
              refine G_region ?_
              refine W_run 1 [(4, .bool true)] w2711 (by kernel_rfl) ?_
              refine W_nil ?_
              refine N_then ?_
              refine G_ret ?_
              obtain rfl := Option.some.inj hm
              refine N_ret [.bool true] (RVs_cons (RV_tmp (by kernel_rfl)) RVs_nil) ?_
              exact ⟨rfl, M2713.pick [] (by kernel_rfl)⟩
theorem c_s_l18Find (w : World) (x2770 : List Balloon) (p2772 : Option Addr) (c2773 : Nat) (h2774 : rdD deepBalloon w x2770 p2772 c2773) (x2775 : Int) {r : Int} (hm : M.s_l18Find x2770 x2775 = some r) :
    Calls Try.prog 56 #[.slice p2772 x2770.length c2773, .int .i64 x2775] w fun e w' => e = .returned (.int .i64 r) ∧ Mem [] w w' [] := by
  unfold M.s_l18Find at hm
  refine C_enter Try.func56 rfl (by kernel_rfl) ?_
  have M0 := Mem.refl [] w
  refine G_seq ?_
  refine G_region ?_
  refine W_run 1 [(0, .slice p2772 x2770.length c2773), (1, .int .i64 x2775)] w (by kernel_rfl) ?_
  refine W_nil ?_
  refine N_then ?_
  refine G_seq ?_
  refine G_seq ?_
  refine G_region ?_
  refine W_run 1 [(0, .slice p2772 x2770.length c2773), (1, .int .i64 x2775), (5, .int .i64 0)] w (by kernel_rfl) ?_
  refine W_nil ?_
  refine N_then ?_
  obtain ⟨out2803, hw2804, hmo2805⟩ := gx_bind hm
  refine G_meet (fun a w' => ∃ (o2806 : Unit), out2803 = .inl o2806 ∧ Mem [] w w' [] ∧ Sat Try.f56.ntmps [] a) ?_ ?_
  · refine G_block ?_
    refine G_while (σ := Int) (ρ := (Unit) ⊕ (Int)) (fun s2796 a w' => Mem [] w w' [] ∧ Sat Try.f56.ntmps [(0, .slice p2772 x2770.length c2773), (1, .int .i64 x2775), (5, .int .i64 s2796)] a) hw2804 (fun a ha => ⟨M0.pick [] (by kernel_rfl), ha.sub (by kernel_rfl)⟩) ?_
    clear hm
    intro s2796 x2797 hm hout2798 a2799 w2800 ⟨M2801, hS2802⟩
    refine G_use hS2802 ?_
    refine G_seq ?_
    refine G_seq ?_
    refine G_region ?_
    refine W_run 4 [(0, .slice p2772 x2770.length c2773), (1, .int .i64 x2775), (5, .int .i64 s2796), (9, .bool (decide (s2796 < (x2770.length : Int))))] w2800 (by kernel_rfl) ?_
    refine W_nil ?_
    refine N_then ?_
    rcases gx_bif hm with ⟨hc2807, hm⟩ | ⟨hc2807, hm⟩
    · refine G_cond_t (b := (decide (s2796 < (x2770.length : Int)))) hc2807 (by kernel_rfl) ?_
      refine G_skip ?_
      refine N_then ?_
      refine G_seq ?_
      refine G_block ?_
      refine G_seq ?_
      refine G_region ?_
      refine W_run 2 [(0, .slice p2772 x2770.length c2773), (1, .int .i64 x2775), (5, .int .i64 s2796), (12, .slice p2772 x2770.length c2773), (13, .int .i64 s2796)] w2800 (by kernel_rfl) ?_
      obtain ⟨y2808, hy2808, hm⟩ := gx_bind hm
      obtain ⟨zs2809, hz2810, hr2811, hi2812⟩ := id h2774
      obtain ⟨g2813, hg2814⟩ := gxIdx_fst hz2810 hy2808
      refine W_val (elemP p2772 (s2796.toNat * 3)) w2800 (by kernel_rfl) (E_index (E := deepBalloon.E) _ _ _ x2770.length c2773 .i64 s2796 3 (y := (y2808, g2813)) rfl (by kernel_rfl) (by kernel_rfl) (by kernel_rfl) (hr2811.mem0 M2801) (len_fst hz2810) hg2814) ?_
      refine W_val (elemP p2772 (s2796.toNat * 3 + 0)) w2800 (by kernel_rfl) (E_fieldE (E := deepBalloon.E) _ _ 0 (s2796.toNat * 3) 0 rfl (by kernel_rfl) (by kernel_rfl) (hr2811.mem0 M2801) hg2814) ?_
      refine W_val (.int .i64 y2808.Guest) w2800 (by kernel_rfl) (E_loadE (E := deepBalloon.E) _ _ false 1 s2796 0 (s2796.toNat * 3 + 0) (y2808, g2813) (.int .i64 y2808.Guest) rfl (by kernel_rfl) (by kernel_rfl) (by kernel_rfl) (hr2811.mem0 M2801) hg2814 rfl) ?_
      refine W_run 2 [(0, .slice p2772 x2770.length c2773), (1, .int .i64 x2775), (5, .int .i64 s2796), (18, .bool (y2808.Guest == x2775))] w2800 (by kernel_rfl) ?_
      refine W_nil ?_
      refine N_then ?_
      rcases gx_bif hm with ⟨hc2816, hm⟩ | ⟨hc2816, hm⟩
      · refine G_cond_t (b := (y2808.Guest == x2775)) hc2816 (by kernel_rfl) ?_
        refine G_seq ?_
        refine G_region ?_
        refine W_run 2 [(4, .int .i64 s2796)] w2800 (by kernel_rfl) ?_
        refine W_nil ?_
        refine N_then ?_
        refine G_ret ?_
        refine N_block_ret ?_
        refine N_then_ret ?_
        refine N_then_ret ?_
        obtain rfl := Option.some.inj hm
        obtain rfl := hout2798 _ rfl
        have hm := hmo2805; simp only [Sum.elim_inr] at hm
        refine N_block_ret ?_
        refine N_meet_ret ?_
        refine N_then_ret ?_
        obtain rfl := Option.some.inj hm
        refine N_ret [.int .i64 s2796] (RVs_cons (RV_tmp (by kernel_rfl)) RVs_nil) ?_
        exact ⟨rfl, M2801.pick [] (by kernel_rfl)⟩
      · refine G_cond_f (b := (y2808.Guest == x2775)) hc2816 (by kernel_rfl) ?_
        refine G_skip ?_
        refine N_block ?_
        refine N_then ?_
        refine G_region ?_
        refine W_run 3 [(0, .slice p2772 x2770.length c2773), (1, .int .i64 x2775), (5, .int .i64 (w64 (s2796 + 1)))] w2800 (by kernel_rfl) ?_
        refine W_nil ?_
        obtain rfl := Option.some.inj hm
        exact N_loop fun a ha => ⟨_, rfl, M2801.pick [] (by kernel_rfl), ha.sub (by kernel_rfl)⟩
    · refine G_cond_f (b := (decide (s2796 < (x2770.length : Int)))) hc2807 (by kernel_rfl) ?_
      refine G_exit ?_
      refine N_then_exit ?_
      refine N_then_exit ?_
      refine N_block_eq ?_
      obtain rfl := Option.some.inj hm
      obtain rfl := hout2798 _ rfl
      exact N_meet fun a ha => ⟨_, rfl, M2801.pick [] (by kernel_rfl), ha.sub (by kernel_rfl)⟩
  · intro a2817 w2818 ⟨o2806, hout_, M2819, hS2820⟩
    refine N_use hS2820 ?_
    subst hout_
    have hm := hmo2805; simp only [Sum.elim_inl] at hm
    refine N_then ?_
    refine G_seq ?_
    refine G_region ?_
    refine W_run 1 [(4, .int .i64 (-1))] w2818 (by kernel_rfl) ?_
    refine W_nil ?_
    refine N_then ?_
    refine G_ret ?_
    obtain rfl := Option.some.inj hm
    refine N_ret [.int .i64 (-1)] (RVs_cons (RV_tmp (by kernel_rfl)) RVs_nil) ?_
    exact ⟨rfl, M2819.pick [] (by kernel_rfl)⟩
theorem c_s_l1Own (w : World) (x2916 : List Int) (p2918 : Option Addr) (c2919 : Nat) (h2920 : rdS encI w x2916 p2918 c2919) {r : (List Int)} (hm : M.s_l1Own x2916 = some r) :
    Calls Try.prog 71 #[.slice p2918 x2916.length c2919] w fun e w' => ∃ (p2922 : Option Addr) (c2923 : Nat) (sg2924 : Seg), e = .returned (.slice p2922 r.length c2923) ∧ ownS encI r p2922 c2923 sg2924 ∧ Mem [] w w' [sg2924] := by
  unfold M.s_l1Own at hm
  refine C_enter Try.func71 rfl (by kernel_rfl) ?_
  have M0 := Mem.refl [] w
  refine G_seq ?_
  refine G_region ?_
  refine W_run 1 [(0, .slice p2918 x2916.length c2919)] w (by kernel_rfl) ?_
  refine W_nil ?_
  refine N_then ?_
  refine G_seq ?_
  refine G_region ?_
  refine W_lit (E := encI) ([] : List Int) 0 [] 3 M0 (by kernel_rfl) (by kernel_rfl) (by kernel_rfl) (by kernel_rfl) (by kernel_rfl) ?_
  intro p2926 c2927 sg2928 w2929 ho2930 M2931
  refine W_run 1 [(3, .slice p2926 ([] : List Int).length c2927), (4, .slice p2918 x2916.length c2919)] w2929 (by kernel_rfl) ?_
  obtain ⟨ap2933, hap2933, hm⟩ := gx_bind hm
  refine W_append (E := encI) _ _ _ 8 [.int .i64 0] 0 c2919 M2931 ho2930 (by kernel_rfl) (by kernel_rfl) (by kernel_rfl) rfl (by kernel_rfl) (by kernel_rfl) (by kernel_rfl) (by kernel_rfl) (by kernel_rfl) (by kernel_rfl) (h2920.mem0 M2931) hap2933 ?_
  intro p2934 c2935 sg2936 w2937 ho2938 M2939
  refine W_run 1 [(2, .slice p2934 ap2933.length c2935)] w2937 (by kernel_rfl) ?_
  refine W_nil ?_
  refine N_then ?_
  refine G_ret ?_
  obtain rfl := Option.some.inj hm
  refine N_ret [.slice p2934 ap2933.length c2935] (RVs_cons (RV_tmp (by kernel_rfl)) RVs_nil) ?_
  exact ⟨p2934, c2935, sg2936, rfl, ho2938, M2939.pick [0] (by kernel_rfl)⟩
theorem c_s_l18With (w : World) (x2870 : List Balloon) (p2872 : Option Addr) (c2873 : Nat) (h2874 : rdD deepBalloon w x2870 p2872 c2873) (x2875 : Int) (x2876 : Int) (x2877 : List Int) (p2879 : Option Addr) (c2880 : Nat) (h2881 : rdS encI w x2877 p2879 c2880) {r : (List Balloon)} (hm : M.s_l18With x2870 x2875 x2876 x2877 = some r) :
    Calls Try.prog 58 #[.slice p2872 x2870.length c2873, .int .i64 x2875, .int .i64 x2876, .slice p2879 x2877.length c2880] w fun e w' => ∃ (p2883 : Option Addr) (c2884 : Nat) (sg2885 : Seg) (sg2886 : Seg), e = .returned (.slice p2883 r.length c2884) ∧ ownD deepBalloon r p2883 c2884 sg2885 sg2886 ∧ Mem [] w w' [sg2885, sg2886] := by
  unfold M.s_l18With at hm
  refine C_enter Try.func58 rfl (by kernel_rfl) ?_
  have M0 := Mem.refl [] w
  refine G_seq ?_
  refine G_region ?_
  refine W_run 1 [(0, .slice p2872 x2870.length c2873), (1, .int .i64 x2875), (2, .int .i64 x2876), (3, .slice p2879 x2877.length c2880)] w (by kernel_rfl) ?_
  refine W_nil ?_
  refine N_then ?_
  refine G_seq ?_
  refine G_region ?_
  have M2888 : Mem [] w w [] := M0.pick [] (by kernel_rfl)
  have M2889 : Mem [] w w [[]] := M2888.regroup (by simp)
  refine W_litD (D := deepBalloon) [] ([] : List Balloon) rfl 0 [] 50 M2889 (by kernel_rfl) (by kernel_rfl) (by kernel_rfl) (by kernel_rfl) (by kernel_rfl) ownI_nil ?_
  intro p2890 c2891 sg2892 w2893 ho2894 M2895
  refine W_run 1 [(0, .slice p2872 x2870.length c2873), (1, .int .i64 x2875), (2, .int .i64 x2876), (3, .slice p2879 x2877.length c2880), (9, .slice p2890 ([] : List Balloon).length c2891)] w2893 (by kernel_rfl) ?_
  refine W_nil ?_
  refine N_then ?_
  refine G_seq ?_
  refine G_seq ?_
  refine G_region ?_
  refine W_run 1 [(0, .slice p2872 x2870.length c2873), (1, .int .i64 x2875), (2, .int .i64 x2876), (3, .slice p2879 x2877.length c2880), (9, .slice p2890 ([] : List Balloon).length c2891), (10, .int .i64 0)] w2893 (by kernel_rfl) ?_
  refine W_nil ?_
  refine N_then ?_
  obtain ⟨out3279, hw3280, hmo3281⟩ := gx_bind hm
  refine G_meet (fun a w' => ∃ (p3289 : Option Addr), ∃ (c3290 : Nat), ∃ (sg3291 : Seg), ∃ (sg3292 : Seg), ownD deepBalloon out3279 p3289 c3290 sg3291 sg3292 ∧ Mem [] w w' [sg3291, sg3292] ∧ Sat Try.f58.ntmps [(9, .slice p3289 out3279.length c3290)] a) ?_ ?_
  · refine G_block ?_
    refine G_while (σ := List Balloon × Int) (ρ := List Balloon) (fun s3272 a w' => ∃ (p3282 : Option Addr), ∃ (c3283 : Nat), ∃ (sg3284 : Seg), ∃ (sg3285 : Seg), ownD deepBalloon s3272.1 p3282 c3283 sg3284 sg3285 ∧ Mem [] w w' [sg3284, sg3285] ∧ Sat Try.f58.ntmps [(0, .slice p2872 x2870.length c2873), (1, .int .i64 x2875), (2, .int .i64 x2876), (3, .slice p2879 x2877.length c2880), (9, .slice p3282 s3272.1.length c3283), (10, .int .i64 s3272.2)] a) hw3280 (fun a ha => ⟨p2890, c2891, sg2892, [], ho2894, M2895.pick [1, 0] (by kernel_rfl), ha.sub (by kernel_rfl)⟩) ?_
    clear hm
    intro s3272 x3273 hm hout3274 a3275 w3276 ⟨p3282, c3283, sg3284, sg3285, ho3286, M3277, hS3278⟩
    refine G_use hS3278 ?_
    refine G_seq ?_
    refine G_seq ?_
    refine G_region ?_
    refine W_run 4 [(0, .slice p2872 x2870.length c2873), (1, .int .i64 x2875), (2, .int .i64 x2876), (3, .slice p2879 x2877.length c2880), (9, .slice p3282 s3272.1.length c3283), (10, .int .i64 s3272.2), (16, .bool (decide (s3272.2 < (x2870.length : Int))))] w3276 (by kernel_rfl) ?_
    refine W_nil ?_
    refine N_then ?_
    rcases gx_bif hm with ⟨hc3295, hm⟩ | ⟨hc3295, hm⟩
    · refine G_cond_t (b := (decide (s3272.2 < (x2870.length : Int)))) hc3295 (by kernel_rfl) ?_
      refine G_skip ?_
      refine N_then ?_
      refine G_seq ?_
      refine G_block ?_
      refine G_seq ?_
      obtain ⟨y3298, hy3298, hm⟩ := gx_bind hm
      obtain ⟨zs3299, hz3300, hr3301, hi3302⟩ := id h2874
      obtain ⟨g3303, hg3304⟩ := gxIdx_fst hz3300 hy3298
      obtain ⟨y3306, hy3306, hm⟩ := gx_bind hm
      obtain ⟨g3307, hg3308⟩ := gxIdx_fst hz3300 hy3306
      obtain ⟨y3310, hy3310, hm⟩ := gx_bind hm
      obtain ⟨g3311, hg3312⟩ := gxIdx_fst hz3300 hy3310
      obtain ⟨r3314, hr3314, hm⟩ := gx_bind hm
      refine G_sub [(0, .slice p2872 x2870.length c2873), (1, .int .i64 x2875), (2, .int .i64 x2876), (3, .slice p2879 x2877.length c2880), (9, .slice p3282 s3272.1.length c3283), (10, .int .i64 s3272.2), (16, .bool (decide (s3272.2 < (x2870.length : Int))))] (by kernel_rfl) ?_
      refine G_dagL 18 [[], [], [0, 1], [2], [3], [], [], [5, 6], [7], [8], [], [], [10, 11], [12], [13], [14], [4, 9], []] [[], [], [], [], [], [], [], [], [], [], [], [], [], [], [], [], [], []] [[], [], [], [], [], [], [], [], [], [], [], [], [], [], [], [], [], []] [[], [], [], [], [], [], [], [], [], [], [], [], [], [], [], [], [15], []] [[], [], [], [], [], [], [], [], [], [], [], [], [], [], [], [], [15], []] [[], [], [], [], [], [], [], [], [], [], [], [], [], [], [], [], [], []] (fun _ => []) (fun i => ([fun f v s => v = (.slice p2872 x2870.length c2873 : Value) ∧ s = [], fun f v s => v = (.int .i64 s3272.2 : Value) ∧ s = [], fun f v s => v = (elemP p2872 (s3272.2.toNat * 3) : Value) ∧ s = [], fun f v s => v = (elemP p2872 (s3272.2.toNat * 3 + 0) : Value) ∧ s = [], fun f v s => v = (.int .i64 y3298.Guest : Value) ∧ s = [], fun f v s => v = (.slice p2872 x2870.length c2873 : Value) ∧ s = [], fun f v s => v = (.int .i64 s3272.2 : Value) ∧ s = [], fun f v s => v = (elemP p2872 (s3272.2.toNat * 3) : Value) ∧ s = [], fun f v s => v = (elemP p2872 (s3272.2.toNat * 3 + 1) : Value) ∧ s = [], fun f v s => v = (.int .i64 y3306.Goal : Value) ∧ s = [], fun f v s => v = (.slice p2872 x2870.length c2873 : Value) ∧ s = [], fun f v s => v = (.int .i64 s3272.2 : Value) ∧ s = [], fun f v s => v = (elemP p2872 (s3272.2.toNat * 3) : Value) ∧ s = [], fun f v s => v = (elemP p2872 (s3272.2.toNat * 3 + 2) : Value) ∧ s = [], fun f v s => v = (.slice ((g3311 0).1) y3310.Gave.length ((g3311 0).2) : Value) ∧ s = [], fun f v s => ∃ (p3316 : Option Addr) (c3317 : Nat), v = (.slice p3316 r3314.length c3317 : Value) ∧ ownS encI r3314 p3316 c3317 s, fun f v s => v = (.agg #[.int .i64 y3298.Guest, .int .i64 y3306.Goal, (atPath (f 15) [])] : Value) ∧ s = [], fun f v s => ∃ (b3323 : Nat), v = (.pointer (some ⟨b3323, 0, none⟩) : Value) ∧ s = [(b3323, .cells ⟨[.int .i64 0, .int .i64 0, .slice none 0 0]⟩ 50 (0, 0))]] : List ((Nat → Value) → Value → Seg → Prop)).getD i (fun _ _ _ => False)) (fun j f v => ∃ s, (fun i => ([fun f v s => v = (.slice p2872 x2870.length c2873 : Value) ∧ s = [], fun f v s => v = (.int .i64 s3272.2 : Value) ∧ s = [], fun f v s => v = (elemP p2872 (s3272.2.toNat * 3) : Value) ∧ s = [], fun f v s => v = (elemP p2872 (s3272.2.toNat * 3 + 0) : Value) ∧ s = [], fun f v s => v = (.int .i64 y3298.Guest : Value) ∧ s = [], fun f v s => v = (.slice p2872 x2870.length c2873 : Value) ∧ s = [], fun f v s => v = (.int .i64 s3272.2 : Value) ∧ s = [], fun f v s => v = (elemP p2872 (s3272.2.toNat * 3) : Value) ∧ s = [], fun f v s => v = (elemP p2872 (s3272.2.toNat * 3 + 1) : Value) ∧ s = [], fun f v s => v = (.int .i64 y3306.Goal : Value) ∧ s = [], fun f v s => v = (.slice p2872 x2870.length c2873 : Value) ∧ s = [], fun f v s => v = (.int .i64 s3272.2 : Value) ∧ s = [], fun f v s => v = (elemP p2872 (s3272.2.toNat * 3) : Value) ∧ s = [], fun f v s => v = (elemP p2872 (s3272.2.toNat * 3 + 2) : Value) ∧ s = [], fun f v s => v = (.slice ((g3311 0).1) y3310.Gave.length ((g3311 0).2) : Value) ∧ s = [], fun f v s => ∃ (p3316 : Option Addr) (c3317 : Nat), v = (.slice p3316 r3314.length c3317 : Value) ∧ ownS encI r3314 p3316 c3317 s, fun f v s => v = (.agg #[.int .i64 y3298.Guest, .int .i64 y3306.Goal, (atPath (f 15) [])] : Value) ∧ s = [], fun f v s => ∃ (b3323 : Nat), v = (.pointer (some ⟨b3323, 0, none⟩) : Value) ∧ s = [(b3323, .cells ⟨[.int .i64 0, .int .i64 0, .slice none 0 0]⟩ 50 (0, 0))]] : List ((Nat → Value) → Value → Seg → Prop)).getD i (fun _ _ _ => False)) j f v s) [] [15, 16, 17] [15, 17] (fun _ _ _ s h => ⟨s, h⟩) (by kernel_rfl) (by kernel_rfl) (M3277.preNil 18) (by kernel_rfl) (by kernel_rfl) (by kernel_rfl) (by kernel_rfl) (allOb_cons ?_ (allOb_cons ?_ (allOb_cons ?_ (allOb_cons ?_ (allOb_cons ?_ (allOb_cons ?_ (allOb_cons ?_ (allOb_cons ?_ (allOb_cons ?_ (allOb_cons ?_ (allOb_cons ?_ (allOb_cons ?_ (allOb_cons ?_ (allOb_cons ?_ (allOb_cons ?_ (allOb_cons ?_ (allOb_cons ?_ (allOb_cons ?_ allOb_nil)))))))))))))))))) ?_
      · intro g3296 f3297
        intro R w3324 M3325
        refine W_run 1 [(19, .slice p2872 x2870.length c2873)] w3324 (by kernel_rfl) ?_
        exact W_nil (ob_end (.slice p2872 x2870.length c2873) [] rfl (by kernel_rfl) ⟨by kernel_rfl, rfl⟩ M3325)
      · intro g3296 f3297
        intro R w3328 M3329
        refine W_run 1 [(20, .int .i64 s3272.2)] w3328 (by kernel_rfl) ?_
        exact W_nil (ob_end (.int .i64 s3272.2) [] rfl (by kernel_rfl) ⟨by kernel_rfl, rfl⟩ M3329)
      · intro g3296 f3297
        intro v0_ hb0_
        obtain ⟨rfl, _⟩ := hb0_
        intro v1_ hb1_
        obtain ⟨rfl, _⟩ := hb1_
        intro R w3332 M3333
        refine W_val (elemP p2872 (s3272.2.toNat * 3)) w3332 (by kernel_rfl) (E_index (E := deepBalloon.E) _ _ _ x2870.length c2873 .i64 s3272.2 3 (y := (y3298, g3303)) rfl (by kernel_rfl) (by kernel_rfl) (by kernel_rfl) (hr3301.mem0 M3333) (len_fst hz3300) hg3304) ?_
        exact W_nil (ob_end (elemP p2872 (s3272.2.toNat * 3)) [] rfl (by kernel_rfl) ⟨by kernel_rfl, rfl⟩ M3333)
      · intro g3296 f3297
        intro v2_ hb2_
        obtain ⟨rfl, _⟩ := hb2_
        intro R w3336 M3337
        refine W_val (elemP p2872 (s3272.2.toNat * 3 + 0)) w3336 (by kernel_rfl) (E_fieldE (E := deepBalloon.E) _ _ 0 (s3272.2.toNat * 3) 0 rfl (by kernel_rfl) (by kernel_rfl) (hr3301.mem0 M3337) hg3304) ?_
        exact W_nil (ob_end (elemP p2872 (s3272.2.toNat * 3 + 0)) [] rfl (by kernel_rfl) ⟨by kernel_rfl, rfl⟩ M3337)
      · intro g3296 f3297
        intro v3_ hb3_
        obtain ⟨rfl, _⟩ := hb3_
        intro R w3340 M3341
        refine W_val (.int .i64 y3298.Guest) w3340 (by kernel_rfl) (E_loadE (E := deepBalloon.E) _ _ false 1 s3272.2 0 (s3272.2.toNat * 3 + 0) (y3298, g3303) (.int .i64 y3298.Guest) rfl (by kernel_rfl) (by kernel_rfl) (by kernel_rfl) (hr3301.mem0 M3341) hg3304 rfl) ?_
        exact W_nil (ob_end (.int .i64 y3298.Guest) [] rfl (by kernel_rfl) ⟨by kernel_rfl, rfl⟩ M3341)
      · intro g3296 f3297
        intro R w3344 M3345
        refine W_run 1 [(24, .slice p2872 x2870.length c2873)] w3344 (by kernel_rfl) ?_
        exact W_nil (ob_end (.slice p2872 x2870.length c2873) [] rfl (by kernel_rfl) ⟨by kernel_rfl, rfl⟩ M3345)
      · intro g3296 f3297
        intro R w3348 M3349
        refine W_run 1 [(25, .int .i64 s3272.2)] w3348 (by kernel_rfl) ?_
        exact W_nil (ob_end (.int .i64 s3272.2) [] rfl (by kernel_rfl) ⟨by kernel_rfl, rfl⟩ M3349)
      · intro g3296 f3297
        intro v5_ hb5_
        obtain ⟨rfl, _⟩ := hb5_
        intro v6_ hb6_
        obtain ⟨rfl, _⟩ := hb6_
        intro R w3352 M3353
        refine W_val (elemP p2872 (s3272.2.toNat * 3)) w3352 (by kernel_rfl) (E_index (E := deepBalloon.E) _ _ _ x2870.length c2873 .i64 s3272.2 3 (y := (y3306, g3307)) rfl (by kernel_rfl) (by kernel_rfl) (by kernel_rfl) (hr3301.mem0 M3353) (len_fst hz3300) hg3308) ?_
        exact W_nil (ob_end (elemP p2872 (s3272.2.toNat * 3)) [] rfl (by kernel_rfl) ⟨by kernel_rfl, rfl⟩ M3353)
      · intro g3296 f3297
        intro v7_ hb7_
        obtain ⟨rfl, _⟩ := hb7_
        intro R w3356 M3357
        refine W_val (elemP p2872 (s3272.2.toNat * 3 + 1)) w3356 (by kernel_rfl) (E_fieldE (E := deepBalloon.E) _ _ 1 (s3272.2.toNat * 3) 1 rfl (by kernel_rfl) (by kernel_rfl) (hr3301.mem0 M3357) hg3308) ?_
        exact W_nil (ob_end (elemP p2872 (s3272.2.toNat * 3 + 1)) [] rfl (by kernel_rfl) ⟨by kernel_rfl, rfl⟩ M3357)
      · intro g3296 f3297
        intro v8_ hb8_
        obtain ⟨rfl, _⟩ := hb8_
        intro R w3360 M3361
        refine W_val (.int .i64 y3306.Goal) w3360 (by kernel_rfl) (E_loadE (E := deepBalloon.E) _ _ false 1 s3272.2 1 (s3272.2.toNat * 3 + 1) (y3306, g3307) (.int .i64 y3306.Goal) rfl (by kernel_rfl) (by kernel_rfl) (by kernel_rfl) (hr3301.mem0 M3361) hg3308 rfl) ?_
        exact W_nil (ob_end (.int .i64 y3306.Goal) [] rfl (by kernel_rfl) ⟨by kernel_rfl, rfl⟩ M3361)
      · intro g3296 f3297
        intro R w3364 M3365
        refine W_run 1 [(29, .slice p2872 x2870.length c2873)] w3364 (by kernel_rfl) ?_
        exact W_nil (ob_end (.slice p2872 x2870.length c2873) [] rfl (by kernel_rfl) ⟨by kernel_rfl, rfl⟩ M3365)
      · intro g3296 f3297
        intro R w3368 M3369
        refine W_run 1 [(30, .int .i64 s3272.2)] w3368 (by kernel_rfl) ?_
        exact W_nil (ob_end (.int .i64 s3272.2) [] rfl (by kernel_rfl) ⟨by kernel_rfl, rfl⟩ M3369)
      · intro g3296 f3297
        intro v10_ hb10_
        obtain ⟨rfl, _⟩ := hb10_
        intro v11_ hb11_
        obtain ⟨rfl, _⟩ := hb11_
        intro R w3372 M3373
        refine W_val (elemP p2872 (s3272.2.toNat * 3)) w3372 (by kernel_rfl) (E_index (E := deepBalloon.E) _ _ _ x2870.length c2873 .i64 s3272.2 3 (y := (y3310, g3311)) rfl (by kernel_rfl) (by kernel_rfl) (by kernel_rfl) (hr3301.mem0 M3373) (len_fst hz3300) hg3312) ?_
        exact W_nil (ob_end (elemP p2872 (s3272.2.toNat * 3)) [] rfl (by kernel_rfl) ⟨by kernel_rfl, rfl⟩ M3373)
      · intro g3296 f3297
        intro v12_ hb12_
        obtain ⟨rfl, _⟩ := hb12_
        intro R w3376 M3377
        refine W_val (elemP p2872 (s3272.2.toNat * 3 + 2)) w3376 (by kernel_rfl) (E_fieldE (E := deepBalloon.E) _ _ 2 (s3272.2.toNat * 3) 2 rfl (by kernel_rfl) (by kernel_rfl) (hr3301.mem0 M3377) hg3312) ?_
        exact W_nil (ob_end (elemP p2872 (s3272.2.toNat * 3 + 2)) [] rfl (by kernel_rfl) ⟨by kernel_rfl, rfl⟩ M3377)
      · intro g3296 f3297
        intro v13_ hb13_
        obtain ⟨rfl, _⟩ := hb13_
        intro R w3380 M3381
        refine W_val (.slice ((g3311 0).1) y3310.Gave.length ((g3311 0).2)) w3380 (by kernel_rfl) (E_loadE (E := deepBalloon.E) _ _ false 1 s3272.2 2 (s3272.2.toNat * 3 + 2) (y3310, g3311) (.slice ((g3311 0).1) y3310.Gave.length ((g3311 0).2)) rfl (by kernel_rfl) (by kernel_rfl) (by kernel_rfl) (hr3301.mem0 M3381) hg3312 rfl) ?_
        exact W_nil (ob_end (.slice ((g3311 0).1) y3310.Gave.length ((g3311 0).2)) [] rfl (by kernel_rfl) ⟨by kernel_rfl, rfl⟩ M3381)
      · intro g3296 f3297
        intro v14_ hb14_
        obtain ⟨rfl, _⟩ := hb14_
        intro R w3384 M3385
        refine W_call 71 #[.slice ((g3311 0).1) y3310.Gave.length ((g3311 0).2)] (by kernel_rfl) (by kernel_rfl) ?_
        refine (c_s_l1Own w3384 y3310.Gave ((g3311 0).1) ((g3311 0).2) ((hi3302.mem0 M3385).at_ hg3312 0 ⟨Int, encI, y3310.Gave, (g3311 0).1, (g3311 0).2⟩ (by kernel_rfl)) hr3314).mono ?_
        rintro e_ w3386 ⟨p3316, c3317, sg3318, rfl, ho3319, K3388⟩
        refine ⟨_, rfl, ?_⟩
        exact W_nil (ob_end (.slice p3316 r3314.length c3317) sg3318 rfl (by kernel_rfl) ⟨p3316, c3317, rfl, ho3319⟩ (Mem.callMid M3385 K3388))
      · intro g3296 f3297
        intro v15_ hb15_
        obtain ⟨_, p3316, c3317, rfl, _⟩ := hb15_
        intro v4_ hb4_
        obtain ⟨rfl, _⟩ := hb4_
        intro v9_ hb9_
        obtain ⟨rfl, _⟩ := hb9_
        intro R w3389 M3390
        refine W_run 1 [(35, .agg #[.int .i64 y3298.Guest, .int .i64 y3306.Goal, .slice p3316 r3314.length c3317])] w3389 (by kernel_rfl) ?_
        exact W_nil (ob_end (.agg #[.int .i64 y3298.Guest, .int .i64 y3306.Goal, .slice p3316 r3314.length c3317]) [] rfl (by kernel_rfl) ⟨by kernel_rfl, rfl⟩ M3390)
      · intro g3296 f3297
        intro R w3393 M3394
        refine W_new (fun b => .pointer (some ⟨b, 0, none⟩)) (.cells ⟨[.int .i64 0, .int .i64 0, .slice none 0 0]⟩ 50 (0, 0)) M3394 rfl (by kernel_rfl) (by kernel_rfl) ?_
        intro b3323 w3395 M3396
        exact W_nil (ob_end (.pointer (some ⟨b3323, 0, none⟩)) [(b3323, .cells ⟨[.int .i64 0, .int .i64 0, .slice none 0 0]⟩ 50 (0, 0))] rfl (by kernel_rfl) ⟨b3323, rfl, rfl⟩ (Mem.mid M3396))
      · intro g3296 f3297
        intro v15_ hb15_
        obtain ⟨p3316, c3317, rfl, ho3319⟩ := hb15_
        intro v16_ hb16_
        obtain ⟨hv16_, _⟩ := hb16_
        obtain rfl : v16_ = (.agg #[.int .i64 y3298.Guest, .int .i64 y3306.Goal, .slice p3316 r3314.length c3317] : Value) := hv16_.trans (by kernel_rfl)
        intro v17_ hb17_
        obtain ⟨b3323, rfl, hs17_⟩ := hb17_
        intro w3397 M3398
        have M3399 : Mem [] w w3397 [sg3284, sg3285, (g3296 15), (g3296 17)] := M3398
        rw [hs17_] at M3399
        refine W_store _ _ _ true 3 b3323 0 [.int .i64 0, .int .i64 0, .slice none 0 0] 50 (.agg #[.int .i64 y3298.Guest, .int .i64 y3306.Goal, .slice p3316 r3314.length c3317]) 3 [.int .i64 y3298.Guest, .int .i64 y3306.Goal, .slice p3316 r3314.length c3317] M3399 (by kernel_rfl) rfl (by kernel_rfl) (by kernel_rfl) (by kernel_rfl) (by kernel_rfl) (by kernel_rfl) (by kernel_rfl) (by kernel_rfl) (by kernel_rfl) ?_
        intro w3400 M3401
        refine W_nil ?_
        refine N_then ?_
        refine G_seq ?_
        refine G_seq ?_
        refine G_region ?_
        refine W_run 3 [(0, .slice p2872 x2870.length c2873), (1, .int .i64 x2875), (2, .int .i64 x2876), (3, .slice p2879 x2877.length c2880), (9, .slice p3282 s3272.1.length c3283), (10, .int .i64 s3272.2), (11, .pointer (some ⟨b3323, 0, none⟩)), (38, .bool (s3272.2 == x2875))] w3400 (by kernel_rfl) ?_
        refine W_nil ?_
        refine N_then ?_
        obtain ⟨o3416, ho3417, hm3418⟩ := gx_bind hm
        refine G_meet (fun a w' => ∃ (p3419 : Option Addr), ∃ (c3420 : Nat), ∃ (sg3421 : Seg), ownS encI o3416.2 p3419 c3420 sg3421 ∧ Mem [] w w' [sg3284, sg3285, [(b3323, .cells ⟨[.int .i64 y3298.Guest, .int .i64 o3416.1, .slice p3419 o3416.2.length c3420]⟩ 50 (0, 0))], sg3421] ∧ Sat Try.f58.ntmps [(0, .slice p2872 x2870.length c2873), (1, .int .i64 x2875), (2, .int .i64 x2876), (3, .slice p2879 x2877.length c2880), (9, .slice p3282 s3272.1.length c3283), (10, .int .i64 s3272.2), (11, .pointer (some ⟨b3323, 0, none⟩))] a) ?_ ?_
        · have hm := ho3417
          rcases gx_bif hm with ⟨hc3424, hm⟩ | ⟨hc3424, hm⟩
          · refine G_cond_t (b := (s3272.2 == x2875)) hc3424 (by kernel_rfl) ?_
            refine G_seq ?_
            refine G_region ?_
            refine W_run 2 [(0, .slice p2872 x2870.length c2873), (1, .int .i64 x2875), (2, .int .i64 x2876), (3, .slice p2879 x2877.length c2880), (9, .slice p3282 s3272.1.length c3283), (10, .int .i64 s3272.2), (11, .pointer (some ⟨b3323, 0, none⟩)), (39, .int .i64 x2876), (40, .pointer (some ⟨b3323, 1, none⟩))] w3400 (by kernel_rfl) ?_
            refine W_store _ _ _ false 1 b3323 1 [.int .i64 y3298.Guest, .int .i64 y3306.Goal, .slice p3316 r3314.length c3317] 50 (.int .i64 x2876) 3 [.int .i64 y3298.Guest, .int .i64 x2876, .slice p3316 r3314.length c3317] M3401 (by kernel_rfl) rfl (by kernel_rfl) (by kernel_rfl) (by kernel_rfl) (by kernel_rfl) (by kernel_rfl) (by kernel_rfl) (by kernel_rfl) (by kernel_rfl) ?_
            intro w3425 M3426
            refine W_nil ?_
            refine N_then ?_
            refine G_region ?_
            refine W_run 1 [(0, .slice p2872 x2870.length c2873), (1, .int .i64 x2875), (2, .int .i64 x2876), (3, .slice p2879 x2877.length c2880), (9, .slice p3282 s3272.1.length c3283), (10, .int .i64 s3272.2), (11, .pointer (some ⟨b3323, 0, none⟩)), (41, .slice p2879 x2877.length c2880)] w3425 (by kernel_rfl) ?_
            obtain ⟨r3427, hr3427, hm⟩ := gx_bind hm
            refine W_call 71 #[.slice p2879 x2877.length c2880] (by kernel_rfl) (by kernel_rfl) ?_
            refine (c_s_l1Own w3425 x2877 p2879 c2880 (h2881.mem0 M3426) hr3427).mono ?_
            rintro e_ w3433 ⟨p3429, c3430, sg3431, rfl, ho3432, K3434⟩
            have M3435 := M3426.call K3434
            refine ⟨_, rfl, ?_⟩
            refine W_run 1 [(0, .slice p2872 x2870.length c2873), (1, .int .i64 x2875), (2, .int .i64 x2876), (3, .slice p2879 x2877.length c2880), (9, .slice p3282 s3272.1.length c3283), (10, .int .i64 s3272.2), (11, .pointer (some ⟨b3323, 0, none⟩)), (42, .slice p3429 r3427.length c3430), (43, .pointer (some ⟨b3323, 2, none⟩))] w3433 (by kernel_rfl) ?_
            refine W_store _ _ _ false 1 b3323 2 [.int .i64 y3298.Guest, .int .i64 x2876, .slice p3316 r3314.length c3317] 50 (.slice p3429 r3427.length c3430) 3 [.int .i64 y3298.Guest, .int .i64 x2876, .slice p3429 r3427.length c3430] M3435 (by kernel_rfl) rfl (by kernel_rfl) (by kernel_rfl) (by kernel_rfl) (by kernel_rfl) (by kernel_rfl) (by kernel_rfl) (by kernel_rfl) (by kernel_rfl) ?_
            intro w3436 M3437
            refine W_nil ?_
            obtain rfl := Option.some.inj hm
            exact N_meet fun a ha => ⟨p3429, c3430, sg3431, ho3432, M3437.pick [0, 1, 3, 4] (by kernel_rfl), ha.sub (by kernel_rfl)⟩
          · refine G_cond_f (b := (s3272.2 == x2875)) hc3424 (by kernel_rfl) ?_
            refine G_skip ?_
            obtain rfl := Option.some.inj hm
            exact N_meet fun a ha => ⟨p3316, c3317, (g3296 15), ho3319, M3401.pick [0, 1, 3, 2] (by kernel_rfl), ha.sub (by kernel_rfl)⟩
        · intro a3440 w3438 ⟨p3419, c3420, sg3421, ho3422, M3439, hS3441⟩
          refine N_use hS3441 ?_
          have hm := hm3418
          refine N_then ?_
          refine G_region ?_
          refine W_run 1 [(0, .slice p2872 x2870.length c2873), (1, .int .i64 x2875), (2, .int .i64 x2876), (3, .slice p2879 x2877.length c2880), (9, .slice p3282 s3272.1.length c3283), (10, .int .i64 s3272.2), (11, .pointer (some ⟨b3323, 0, none⟩)), (44, .slice p3282 s3272.1.length c3283)] w3438 (by kernel_rfl) ?_
          refine W_val (.agg #[.int .i64 y3298.Guest, .int .i64 o3416.1, .slice p3419 o3416.2.length c3420]) w3438 (by kernel_rfl) (E_load (e := 50) (fr := (0, 0)) _ _ true 3 b3323 0 [.int .i64 y3298.Guest, .int .i64 o3416.1, .slice p3419 o3416.2.length c3420] (.agg #[.int .i64 y3298.Guest, .int .i64 o3416.1, .slice p3419 o3416.2.length c3420]) rfl (by kernel_rfl) (by kernel_rfl) (by kernel_rfl) (M3439.blk 2 (b := b3323) (o := .cells ⟨[.int .i64 y3298.Guest, .int .i64 o3416.1, .slice p3419 o3416.2.length c3420]⟩ 50 (0, 0)) (by kernel_rfl))) ?_
          have M3443 : Mem [] w w3438 [sg3284, sg3285, [(b3323, .cells ⟨[.int .i64 y3298.Guest, .int .i64 o3416.1, .slice p3419 o3416.2.length c3420]⟩ 50 (0, 0))], sg3421] := M3439.pick [0, 1, 2, 3] (by kernel_rfl)
          have M3444 : Mem [] w w3438 [sg3284, sg3285, [(b3323, .cells ⟨[.int .i64 y3298.Guest, .int .i64 o3416.1, .slice p3419 o3416.2.length c3420]⟩ 50 (0, 0))], (sg3421 ++ [])] := M3443.regroup (by simp)
          refine W_litD (D := deepBalloon) [((⟨y3298.Guest, o3416.1, o3416.2⟩ : Balloon), plOf [(p3419, c3420)])] [(⟨y3298.Guest, o3416.1, o3416.2⟩ : Balloon)] rfl 1 [.int .i64 y3298.Guest, .int .i64 o3416.1, .slice p3419 o3416.2.length c3420] 50 M3444 (by kernel_rfl) (by kernel_rfl) (by kernel_rfl) (by kernel_rfl) (by kernel_rfl) (ownI_cons (i := ⟨Int, encI, _, _, _⟩) ho3422 ownI_nil) ?_
          intro p3445 c3446 sg3447 w3448 ho3449 M3450
          obtain ⟨ap3452, hap3452, hm⟩ := gx_bind hm
          obtain ⟨zs3454, hz3455, hr3456, hi3457⟩ := id ho3449
          refine W_appendD (D := deepBalloon) (us := zs3454) (s2 := (sg3421 ++ [])) _ _ _ 40 [.int .i64 0, .int .i64 0, .slice none 0 0] 0 c3446 M3450 ho3286 (by kernel_rfl) (by kernel_rfl) (by kernel_rfl) rfl (by kernel_rfl) (by kernel_rfl) (by kernel_rfl) (by kernel_rfl) (by kernel_rfl) (by kernel_rfl) (hr3456.rd M3450 4 (by kernel_rfl)) hz3455 hi3457 hap3452 ?_
          intro p3458 c3459 sg3460 w3461 ho3462 M3463
          have M3464 : Mem [] w w3461 [sg3460, [(b3323, .cells ⟨[.int .i64 y3298.Guest, .int .i64 o3416.1, .slice p3419 o3416.2.length c3420]⟩ 50 (0, 0))], sg3447, sg3285, (sg3421 ++ [])] := M3463.pick [0, 2, 4, 1, 3] (by kernel_rfl)
          have M3465 : Mem [] w w3461 [sg3460, [(b3323, .cells ⟨[.int .i64 y3298.Guest, .int .i64 o3416.1, .slice p3419 o3416.2.length c3420]⟩ 50 (0, 0))], sg3447, (sg3285 ++ (sg3421 ++ []))] := M3464.regroup (by simp)
          refine W_run 1 [(0, .slice p2872 x2870.length c2873), (1, .int .i64 x2875), (2, .int .i64 x2876), (3, .slice p2879 x2877.length c2880), (9, .slice p3458 ap3452.length c3459), (10, .int .i64 s3272.2)] w3461 (by kernel_rfl) ?_
          refine W_nil ?_
          refine N_block ?_
          refine N_then ?_
          refine G_region ?_
          refine W_run 3 [(0, .slice p2872 x2870.length c2873), (1, .int .i64 x2875), (2, .int .i64 x2876), (3, .slice p2879 x2877.length c2880), (9, .slice p3458 ap3452.length c3459), (10, .int .i64 (w64 (s3272.2 + 1)))] w3461 (by kernel_rfl) ?_
          refine W_nil ?_
          obtain rfl := Option.some.inj hm
          exact N_loop fun a ha => ⟨_, rfl, p3458, c3459, sg3460, (sg3285 ++ (sg3421 ++ [])), ho3462, M3465.pick [0, 3] (by kernel_rfl), ha.sub (by kernel_rfl)⟩
    · refine G_cond_f (b := (decide (s3272.2 < (x2870.length : Int)))) hc3295 (by kernel_rfl) ?_
      refine G_exit ?_
      refine N_then_exit ?_
      refine N_then_exit ?_
      refine N_block_eq ?_
      obtain rfl := Option.some.inj hm
      obtain rfl := hout3274 _ rfl
      exact N_meet fun a ha => ⟨p3282, c3283, sg3284, sg3285, ho3286, M3277.pick [0, 1] (by kernel_rfl), ha.sub (by kernel_rfl)⟩
  · intro a3467 w3468 ⟨p3289, c3290, sg3291, sg3292, ho3293, M3469, hS3470⟩
    refine N_use hS3470 ?_
    have hm := hmo3281
    refine N_then ?_
    refine G_seq ?_
    refine G_region ?_
    refine W_run 2 [(8, .slice p3289 out3279.length c3290)] w3468 (by kernel_rfl) ?_
    refine W_nil ?_
    refine N_then ?_
    refine G_ret ?_
    obtain rfl := Option.some.inj hm
    refine N_ret [.slice p3289 out3279.length c3290] (RVs_cons (RV_tmp (by kernel_rfl)) RVs_nil) ?_
    exact ⟨p3289, c3290, sg3291, sg3292, rfl, ho3293, M3469.pick [0, 1] (by kernel_rfl)⟩
theorem c_s_SetGoal (w : World) (x2752 : List Int) (p2754 : Option Addr) (c2755 : Nat) (h2756 : rdS encI w x2752 p2754 c2755) (x2757 : List Balloon) (p2759 : Option Addr) (c2760 : Nat) (h2761 : rdD deepBalloon w x2757 p2759 c2760) (x2762 : Int) (x2763 : Int) {r : (List Balloon) × Bool} (hm : M.s_SetGoal x2752 x2757 x2762 x2763 = some r) :
    Calls Try.prog 22 #[.slice p2754 x2752.length c2755, .slice p2759 x2757.length c2760, .int .i64 x2762, .int .i64 x2763] w fun e w' => ∃ (p2765 : Option Addr) (c2766 : Nat) (sg2767 : Seg) (sg2768 : Seg), e = .returned (.tuple #[.slice p2765 r.1.length c2766, .bool r.2]) ∧ ownD deepBalloon r.1 p2765 c2766 sg2767 sg2768 ∧ Mem [] w w' [sg2767, sg2768] := by
  unfold M.s_SetGoal at hm
  refine C_enter Try.func22 rfl (by kernel_rfl) ?_
  have M0 := Mem.refl [] w
  refine G_seq ?_
  refine G_region ?_
  refine W_run 2 [(0, .slice p2754 x2752.length c2755), (1, .slice p2759 x2757.length c2760), (2, .int .i64 x2762), (3, .int .i64 x2763)] w (by kernel_rfl) ?_
  refine W_nil ?_
  refine N_then ?_
  refine G_seq ?_
  refine G_region ?_
  refine W_run 2 [(0, .slice p2754 x2752.length c2755), (1, .slice p2759 x2757.length c2760), (3, .int .i64 x2763), (11, .slice p2759 x2757.length c2760), (12, .int .i64 x2762)] w (by kernel_rfl) ?_
  obtain ⟨r2821, hr2821, hm⟩ := gx_bind hm
  refine W_call 56 #[.slice p2759 x2757.length c2760, .int .i64 x2762] (by kernel_rfl) (by kernel_rfl) ?_
  refine (c_s_l18Find w x2757 p2759 c2760 (h2761.mem0 M0) x2762 hr2821).mono ?_
  rintro e_ w2822 ⟨rfl, K2823⟩
  have M2824 := M0.call0 K2823
  refine ⟨_, rfl, ?_⟩
  refine W_run 1 [(0, .slice p2754 x2752.length c2755), (1, .slice p2759 x2757.length c2760), (3, .int .i64 x2763), (10, .int .i64 r2821)] w2822 (by kernel_rfl) ?_
  refine W_nil ?_
  refine N_then ?_
  refine G_seq ?_
  refine G_seq ?_
  obtain ⟨o2835, ho2836, hm2837⟩ := gx_bind hm
  refine G_meet (fun a w' => Mem [] w w' [] ∧ Sat Try.f22.ntmps [(1, .slice p2759 x2757.length c2760), (3, .int .i64 x2763), (10, .int .i64 r2821), (26, .bool o2835)] a) ?_ ?_
  · have hm := ho2836
    refine G_region ?_
    refine W_run 2 [(1, .slice p2759 x2757.length c2760), (3, .int .i64 x2763), (10, .int .i64 r2821), (14, .slice p2754 x2752.length c2755), (15, .slice p2759 x2757.length c2760)] w2822 (by kernel_rfl) ?_
    obtain ⟨r2838, hr2838, hm⟩ := gx_bind hm
    refine W_call 47 #[.slice p2754 x2752.length c2755, .slice p2759 x2757.length c2760] (by kernel_rfl) (by kernel_rfl) ?_
    refine (c_s_l18Good w2822 x2752 p2754 c2755 (h2756.mem0 M2824) x2757 p2759 c2760 (h2761.mem0 M2824) hr2838).mono ?_
    rintro e_ w2839 ⟨rfl, K2840⟩
    have M2841 := M2824.call0 K2840
    refine ⟨_, rfl, ?_⟩
    refine W_run 2 [(1, .slice p2759 x2757.length c2760), (3, .int .i64 x2763), (10, .int .i64 r2821), (18, .bool (!r2838))] w2839 (by kernel_rfl) ?_
    rcases gx_bif hm with ⟨hc2842, hm⟩ | ⟨hc2842, hm⟩
    · refine W_known 18 true (by kernel_rfl) hc2842 ?_
      refine W_run 8 [(1, .slice p2759 x2757.length c2760), (3, .int .i64 x2763), (10, .int .i64 r2821), (26, .bool true)] w2839 (by kernel_rfl) ?_
      refine W_nil ?_
      obtain rfl := Option.some.inj hm
      exact N_meet fun a ha => ⟨M2841.pick [] (by kernel_rfl), ha.sub (by kernel_rfl)⟩
    · refine W_known 18 false (by kernel_rfl) hc2842 ?_
      refine W_run 4 [(1, .slice p2759 x2757.length c2760), (3, .int .i64 x2763), (10, .int .i64 r2821), (22, .bool (decide (r2821 < 0)))] w2839 (by kernel_rfl) ?_
      rcases gx_bif hm with ⟨hc2843, hm⟩ | ⟨hc2843, hm⟩
      · refine W_known 22 true (by kernel_rfl) hc2843 ?_
        refine W_run 4 [(1, .slice p2759 x2757.length c2760), (3, .int .i64 x2763), (10, .int .i64 r2821), (26, .bool true)] w2839 (by kernel_rfl) ?_
        refine W_nil ?_
        obtain rfl := Option.some.inj hm
        exact N_meet fun a ha => ⟨M2841.pick [] (by kernel_rfl), ha.sub (by kernel_rfl)⟩
      · refine W_known 22 false (by kernel_rfl) hc2843 ?_
        refine W_run 1 [(1, .slice p2759 x2757.length c2760), (3, .int .i64 x2763), (10, .int .i64 r2821), (22, .bool false), (23, .int .i64 x2763)] w2839 (by kernel_rfl) ?_
        obtain ⟨r2844, hr2844, hm⟩ := gx_bind hm
        refine W_call 57 #[.int .i64 x2763, .int .i64 0, .int .i64 16] (by kernel_rfl) (by kernel_rfl) ?_
        refine (c_s_l1In w2839 x2763 0 16 hr2844).mono ?_
        rintro e_ w2845 ⟨rfl, K2846⟩
        have M2847 := M2841.call0 K2846
        refine ⟨_, rfl, ?_⟩
        refine W_run 2 [(1, .slice p2759 x2757.length c2760), (3, .int .i64 x2763), (10, .int .i64 r2821), (26, .bool (!r2844))] w2845 (by kernel_rfl) ?_
        refine W_nil ?_
        obtain rfl := Option.some.inj hm
        exact N_meet fun a ha => ⟨M2847.pick [] (by kernel_rfl), ha.sub (by kernel_rfl)⟩
  · intro a2850 w2848 ⟨M2849, hS2851⟩
    refine N_use hS2851 ?_
    have hm := hm2837
    refine N_then ?_
    rcases gx_bif hm with ⟨hc2852, hm⟩ | ⟨hc2852, hm⟩
    · refine G_cond_t (b := o2835) hc2852 (by kernel_rfl) ?_
      refine G_seq ?_
      refine G_region ?_
      have M2853 : Mem [] w w2848 [] := M2849.pick [] (by kernel_rfl)
      have M2854 : Mem [] w w2848 [[]] := M2853.regroup (by simp)
      refine W_litD (D := deepBalloon) [] ([] : List Balloon) rfl 0 [] 50 M2854 (by kernel_rfl) (by kernel_rfl) (by kernel_rfl) (by kernel_rfl) (by kernel_rfl) ownI_nil ?_
      intro p2855 c2856 sg2857 w2858 ho2859 M2860
      refine W_run 2 [(8, .slice p2855 ([] : List Balloon).length c2856), (9, .bool false)] w2858 (by kernel_rfl) ?_
      refine W_nil ?_
      refine N_then ?_
      refine G_ret ?_
      refine N_then_ret ?_
      obtain rfl := Option.some.inj hm
      refine N_ret [.slice p2855 ([] : List Balloon).length c2856, .bool false] (RVs_cons (RV_tmp (by kernel_rfl)) (RVs_cons (RV_tmp (by kernel_rfl)) RVs_nil)) ?_
      exact ⟨p2855, c2856, sg2857, [], rfl, ho2859, M2860.pick [1, 0] (by kernel_rfl)⟩
    · refine G_cond_f (b := o2835) hc2852 (by kernel_rfl) ?_
      refine G_skip ?_
      refine N_then ?_
      refine G_seq ?_
      refine G_region ?_
      refine W_run 5 [(28, .slice p2759 x2757.length c2760), (29, .int .i64 r2821), (30, .int .i64 x2763), (31, .slice p2759 x2757.length c2760), (32, .int .i64 r2821)] w2848 (by kernel_rfl) ?_
      obtain ⟨y2862, hy2862, hm⟩ := gx_bind hm
      obtain ⟨zs2863, hz2864, hr2865, hi2866⟩ := id h2761
      obtain ⟨g2867, hg2868⟩ := gxIdx_fst hz2864 hy2862
      refine W_val (elemP p2759 (r2821.toNat * 3)) w2848 (by kernel_rfl) (E_index (E := deepBalloon.E) _ _ _ x2757.length c2760 .i64 r2821 3 (y := (y2862, g2867)) rfl (by kernel_rfl) (by kernel_rfl) (by kernel_rfl) (hr2865.mem0 M2849) (len_fst hz2864) hg2868) ?_
      refine W_val (elemP p2759 (r2821.toNat * 3 + 2)) w2848 (by kernel_rfl) (E_fieldE (E := deepBalloon.E) _ _ 2 (r2821.toNat * 3) 2 rfl (by kernel_rfl) (by kernel_rfl) (hr2865.mem0 M2849) hg2868) ?_
      refine W_val (.slice ((g2867 0).1) y2862.Gave.length ((g2867 0).2)) w2848 (by kernel_rfl) (E_loadE (E := deepBalloon.E) _ _ false 1 r2821 2 (r2821.toNat * 3 + 2) (y2862, g2867) (.slice ((g2867 0).1) y2862.Gave.length ((g2867 0).2)) rfl (by kernel_rfl) (by kernel_rfl) (by kernel_rfl) (hr2865.mem0 M2849) hg2868 rfl) ?_
      obtain ⟨r3471, hr3471, hm⟩ := gx_bind hm
      refine W_call 58 #[.slice p2759 x2757.length c2760, .int .i64 r2821, .int .i64 x2763, .slice ((g2867 0).1) y2862.Gave.length ((g2867 0).2)] (by kernel_rfl) (by kernel_rfl) ?_
      refine (c_s_l18With w2848 x2757 p2759 c2760 (h2761.mem0 M2849) r2821 x2763 y2862.Gave ((g2867 0).1) ((g2867 0).2) ((hi2866.mem0 M2849).at_ hg2868 0 ⟨Int, encI, y2862.Gave, (g2867 0).1, (g2867 0).2⟩ (by kernel_rfl)) hr3471).mono ?_
      rintro e_ w3478 ⟨p3473, c3474, sg3475, sg3476, rfl, ho3477, K3479⟩
      have M3480 := M2849.call K3479
      refine ⟨_, rfl, ?_⟩
      refine W_run 2 [(8, .slice p3473 r3471.length c3474), (9, .bool true)] w3478 (by kernel_rfl) ?_
      refine W_nil ?_
      refine N_then ?_
      refine G_ret ?_
      obtain rfl := Option.some.inj hm
      refine N_ret [.slice p3473 r3471.length c3474, .bool true] (RVs_cons (RV_tmp (by kernel_rfl)) (RVs_cons (RV_tmp (by kernel_rfl)) RVs_nil)) ?_
      exact ⟨p3473, c3474, sg3475, sg3476, rfl, ho3477, M3480.pick [0, 1] (by kernel_rfl)⟩
theorem c_i_balloonOf_1 (w : World) (x3561 : Balloon) (p3563 : Option Addr) (c3564 : Nat) (h3565 : rdS encI w x3561.Gave p3563 c3564) (x3566 : Int) (b3567 : Nat) (hb3568 : w.heap[b3567]? = some (.cells ⟨[.int .i64 x3566]⟩ 3 (0, 0))) {r : Bool} (hm : M.i_balloonOf_1 x3561 x3566 = some r) :
    Calls Try.prog 86 #[.agg #[.int .i64 x3561.Guest, .int .i64 x3561.Goal, .slice p3563 x3561.Gave.length c3564], .pointer (some ⟨b3567, 0, none⟩)] w fun e w' => e = .returned (.bool r) ∧ Mem [] w w' [] := by
  unfold M.i_balloonOf_1 at hm
  refine C_enter Try.func86 rfl (by kernel_rfl) ?_
  have M0 := Mem.refl [] w
  refine G_seq ?_
  refine G_region ?_
  refine W_new (fun b => .pointer (some ⟨b, 0, none⟩)) (.cells ⟨[.int .i64 x3561.Guest, .int .i64 x3561.Goal, .slice p3563 x3561.Gave.length c3564]⟩ 50 (0, 0)) M0 rfl (by kernel_rfl) (by kernel_rfl) ?_
  intro b3571 w3572 M3573
  refine W_run 1 [(1, .pointer (some ⟨b3567, 0, none⟩)), (2, .pointer (some ⟨b3571, 0, none⟩))] w3572 (by kernel_rfl) ?_
  refine W_nil ?_
  refine N_then ?_
  refine G_seq ?_
  refine G_region ?_
  refine W_run 1 [(1, .pointer (some ⟨b3567, 0, none⟩)), (4, .pointer (some ⟨b3571, 0, none⟩))] w3572 (by kernel_rfl) ?_
  refine W_val (.int .i64 x3561.Guest) w3572 (by kernel_rfl) (E_load (e := 50) (fr := (0, 0)) _ _ false 1 b3571 0 [.int .i64 x3561.Guest, .int .i64 x3561.Goal, .slice p3563 x3561.Gave.length c3564] (.int .i64 x3561.Guest) rfl (by kernel_rfl) (by kernel_rfl) (by kernel_rfl) (M3573.blk 0 (b := b3571) (o := .cells ⟨[.int .i64 x3561.Guest, .int .i64 x3561.Goal, .slice p3563 x3561.Gave.length c3564]⟩ 50 (0, 0)) (by kernel_rfl))) ?_
  refine W_val (.int .i64 x3566) w3572 (by kernel_rfl) (E_load (e := 3) (fr := (0, 0)) _ _ false 1 b3567 0 [.int .i64 x3566] (.int .i64 x3566) rfl (by kernel_rfl) (by kernel_rfl) (by kernel_rfl) (M3573.ro hb3568)) ?_
  refine W_run 2 [(3, .bool (x3561.Guest == x3566))] w3572 (by kernel_rfl) ?_
  refine W_nil ?_
  refine N_then ?_
  refine G_ret ?_
  obtain rfl := Option.some.inj hm
  refine N_ret [.bool (x3561.Guest == x3566)] (RVs_cons (RV_tmp (by kernel_rfl)) RVs_nil) ?_
  exact ⟨rfl, M3573.pick [] (by kernel_rfl)⟩
theorem c_slices_IndexFunc_85__i_balloonOf_1 (w : World) (x3543 : List Balloon) (p3545 : Option Addr) (c3546 : Nat) (h3547 : rdD deepBalloon w x3543 p3545 c3546) (x3548 : Int) (b3549 : Nat) (hb3550 : w.heap[b3549]? = some (.cells ⟨[.int .i64 x3548]⟩ 3 (0, 0))) {r : Int} (hm : M.slices_IndexFunc_85__i_balloonOf_1 x3543 x3548 = some r) :
    Calls Try.prog 85 #[.slice p3545 x3543.length c3546, .func (.func 86) #[] #[.pointer (some ⟨b3549, 0, none⟩)]] w fun e w' => e = .returned (.int .i64 r) ∧ Mem [] w w' [] := by
  unfold M.slices_IndexFunc_85__i_balloonOf_1 at hm
  refine C_enter Try.func85 rfl (by kernel_rfl) ?_
  have M0 := Mem.refl [] w
  refine G_seq ?_
  refine G_region ?_
  refine W_run 1 [(0, .slice p3545 x3543.length c3546), (1, .func (.func 86) #[] #[.pointer (some ⟨b3549, 0, none⟩)])] w (by kernel_rfl) ?_
  refine W_nil ?_
  refine N_then ?_
  refine G_seq ?_
  refine G_seq ?_
  refine G_region ?_
  refine W_run 3 [(0, .slice p3545 x3543.length c3546), (1, .func (.func 86) #[] #[.pointer (some ⟨b3549, 0, none⟩)]), (7, .int .i64 (x3543.length : Int)), (8, .int .i64 0)] w (by kernel_rfl) ?_
  refine W_nil ?_
  refine N_then ?_
  obtain ⟨out3600, hw3601, hmo3602⟩ := gx_bind hm
  refine G_meet (fun a w' => ∃ (o3603 : Unit), out3600 = .inl o3603 ∧ Mem [] w w' [] ∧ Sat Try.f85.ntmps [] a) ?_ ?_
  · refine G_block ?_
    refine G_while (σ := Int) (ρ := (Unit) ⊕ (Int)) (fun s3593 a w' => Mem [] w w' [] ∧ Sat Try.f85.ntmps [(0, .slice p3545 x3543.length c3546), (1, .func (.func 86) #[] #[.pointer (some ⟨b3549, 0, none⟩)]), (7, .int .i64 (x3543.length : Int)), (8, .int .i64 s3593)] a) hw3601 (fun a ha => ⟨M0.pick [] (by kernel_rfl), ha.sub (by kernel_rfl)⟩) ?_
    clear hm
    intro s3593 x3594 hm hout3595 a3596 w3597 ⟨M3598, hS3599⟩
    refine G_use hS3599 ?_
    refine G_seq ?_
    refine G_region ?_
    refine W_run 1 [(0, .slice p3545 x3543.length c3546), (1, .func (.func 86) #[] #[.pointer (some ⟨b3549, 0, none⟩)]), (7, .int .i64 (x3543.length : Int)), (8, .int .i64 s3593), (9, .bool (decide (s3593 < (x3543.length : Int))))] w3597 (by kernel_rfl) ?_
    refine W_nil ?_
    refine N_then ?_
    refine G_seq ?_
    rcases gx_bif hm with ⟨hc3604, hm⟩ | ⟨hc3604, hm⟩
    · refine G_cond_t (b := (decide (s3593 < (x3543.length : Int)))) hc3604 (by kernel_rfl) ?_
      refine G_skip ?_
      refine N_then ?_
      refine G_seq ?_
      refine G_block ?_
      refine G_seq ?_
      refine G_region ?_
      refine W_run 2 [(0, .slice p3545 x3543.length c3546), (1, .func (.func 86) #[] #[.pointer (some ⟨b3549, 0, none⟩)]), (5, .int .i64 s3593), (7, .int .i64 (x3543.length : Int)), (8, .int .i64 s3593)] w3597 (by kernel_rfl) ?_
      refine W_nil ?_
      refine N_then ?_
      refine G_seq ?_
      refine G_region ?_
      refine W_run 3 [(0, .slice p3545 x3543.length c3546), (1, .func (.func 86) #[] #[.pointer (some ⟨b3549, 0, none⟩)]), (5, .int .i64 s3593), (7, .int .i64 (x3543.length : Int)), (8, .int .i64 s3593), (11, .func (.func 86) #[] #[.pointer (some ⟨b3549, 0, none⟩)]), (12, .slice p3545 x3543.length c3546), (13, .int .i64 s3593)] w3597 (by kernel_rfl) ?_
      obtain ⟨y3605, hy3605, hm⟩ := gx_bind hm
      obtain ⟨zs3606, hz3607, hr3608, hi3609⟩ := id h3547
      obtain ⟨g3610, hg3611⟩ := gxIdx_fst hz3607 hy3605
      refine W_val (elemP p3545 (s3593.toNat * 3)) w3597 (by kernel_rfl) (E_index (E := deepBalloon.E) _ _ _ x3543.length c3546 .i64 s3593 3 (y := (y3605, g3610)) rfl (by kernel_rfl) (by kernel_rfl) (by kernel_rfl) (hr3608.mem0 M3598) (len_fst hz3607) hg3611) ?_
      refine W_val (.agg #[.int .i64 y3605.Guest, .int .i64 y3605.Goal, .slice ((g3610 0).1) y3605.Gave.length ((g3610 0).2)]) w3597 (by kernel_rfl) (E_loadE (E := deepBalloon.E) _ _ true 3 s3593 0 (s3593.toNat * 3) (y3605, g3610) (.agg #[.int .i64 y3605.Guest, .int .i64 y3605.Goal, .slice ((g3610 0).1) y3605.Gave.length ((g3610 0).2)]) rfl (by kernel_rfl) (by kernel_rfl) (by kernel_rfl) (hr3608.mem0 M3598) hg3611 rfl) ?_
      obtain ⟨r3613, hr3613, hm⟩ := gx_bind hm
      refine W_call 86 #[.agg #[.int .i64 y3605.Guest, .int .i64 y3605.Goal, .slice ((g3610 0).1) y3605.Gave.length ((g3610 0).2)], .pointer (some ⟨b3549, 0, none⟩)] (by kernel_rfl) (by kernel_rfl) ?_
      refine (c_i_balloonOf_1 w3597 y3605 ((g3610 0).1) ((g3610 0).2) ((hi3609.mem0 M3598).at_ hg3611 0 ⟨Int, encI, y3605.Gave, (g3610 0).1, (g3610 0).2⟩ (by kernel_rfl)) x3548 b3549 (M3598.ro hb3550) hr3613).mono ?_
      rintro e_ w3614 ⟨rfl, K3615⟩
      have M3616 := M3598.call0 K3615
      refine ⟨_, rfl, ?_⟩
      refine W_nil ?_
      refine N_then ?_
      rcases gx_bif hm with ⟨hc3617, hm⟩ | ⟨hc3617, hm⟩
      · refine G_cond_t (b := r3613) hc3617 (by kernel_rfl) ?_
        refine G_seq ?_
        refine G_region ?_
        refine W_run 2 [(4, .int .i64 s3593)] w3614 (by kernel_rfl) ?_
        refine W_nil ?_
        refine N_then ?_
        refine G_ret ?_
        refine N_block_ret ?_
        refine N_then_ret ?_
        refine N_then_ret ?_
        obtain rfl := Option.some.inj hm
        obtain rfl := hout3595 _ rfl
        have hm := hmo3602; simp only [Sum.elim_inr] at hm
        refine N_block_ret ?_
        refine N_meet_ret ?_
        refine N_then_ret ?_
        obtain rfl := Option.some.inj hm
        refine N_ret [.int .i64 s3593] (RVs_cons (RV_tmp (by kernel_rfl)) RVs_nil) ?_
        exact ⟨rfl, M3616.pick [] (by kernel_rfl)⟩
      · refine G_cond_f (b := r3613) hc3617 (by kernel_rfl) ?_
        refine G_skip ?_
        refine N_block ?_
        refine N_then ?_
        refine G_region ?_
        refine W_run 2 [(0, .slice p3545 x3543.length c3546), (1, .func (.func 86) #[] #[.pointer (some ⟨b3549, 0, none⟩)]), (7, .int .i64 (x3543.length : Int)), (8, .int .i64 (w64 (s3593 + 1)))] w3614 (by kernel_rfl) ?_
        refine W_nil ?_
        obtain rfl := Option.some.inj hm
        exact N_loop fun a ha => ⟨_, rfl, M3616.pick [] (by kernel_rfl), ha.sub (by kernel_rfl)⟩
    · refine G_cond_f (b := (decide (s3593 < (x3543.length : Int)))) hc3604 (by kernel_rfl) ?_
      refine G_exit ?_
      refine N_then_exit ?_
      refine N_then_exit ?_
      refine N_block_eq ?_
      obtain rfl := Option.some.inj hm
      obtain rfl := hout3595 _ rfl
      exact N_meet fun a ha => ⟨_, rfl, M3598.pick [] (by kernel_rfl), ha.sub (by kernel_rfl)⟩
  · intro a3618 w3619 ⟨o3603, hout_, M3620, hS3621⟩
    refine N_use hS3621 ?_
    subst hout_
    have hm := hmo3602; simp only [Sum.elim_inl] at hm
    refine N_then ?_
    refine G_seq ?_
    refine G_region ?_
    refine W_run 1 [(4, .int .i64 (-1))] w3619 (by kernel_rfl) ?_
    refine W_nil ?_
    refine N_then ?_
    refine G_ret ?_
    obtain rfl := Option.some.inj hm
    refine N_ret [.int .i64 (-1)] (RVs_cons (RV_tmp (by kernel_rfl)) RVs_nil) ?_
    exact ⟨rfl, M3620.pick [] (by kernel_rfl)⟩
theorem c_i_balloonOf (w : World) (x3528 : List Int) (p3530 : Option Addr) (c3531 : Nat) (h3532 : rdS encI w x3528 p3530 c3531) (x3533 : List Balloon) (p3535 : Option Addr) (c3536 : Nat) (h3537 : rdD deepBalloon w x3533 p3535 c3536) (x3538 : Int) {r : Int × Bool} (hm : M.i_balloonOf x3528 x3533 x3538 = some r) :
    Calls Try.prog 59 #[.slice p3530 x3528.length c3531, .slice p3535 x3533.length c3536, .int .i64 x3538] w fun e w' => e = .returned (.tuple #[.int .i64 r.1, .bool r.2]) ∧ Mem [] w w' [] := by
  unfold M.i_balloonOf at hm
  refine C_enter Try.func59 rfl (by kernel_rfl) ?_
  have M0 := Mem.refl [] w
  refine G_seq ?_
  refine G_region ?_
  refine W_new (fun b => .pointer (some ⟨b, 0, none⟩)) (.cells ⟨[.int .i64 x3538]⟩ 3 (0, 0)) M0 rfl (by kernel_rfl) (by kernel_rfl) ?_
  intro b3540 w3541 M3542
  refine W_run 2 [(0, .slice p3530 x3528.length c3531), (1, .slice p3535 x3533.length c3536), (5, .pointer (some ⟨b3540, 0, none⟩))] w3541 (by kernel_rfl) ?_
  refine W_nil ?_
  refine N_then ?_
  refine G_seq ?_
  refine G_region ?_
  refine W_run 2 [(0, .slice p3530 x3528.length c3531), (1, .slice p3535 x3533.length c3536), (9, .slice p3535 x3533.length c3536), (10, .func (.func 86) #[] #[.pointer (some ⟨b3540, 0, none⟩)])] w3541 (by kernel_rfl) ?_
  obtain ⟨r3622, hr3622, hm⟩ := gx_bind hm
  refine W_call 85 #[.slice p3535 x3533.length c3536, .func (.func 86) #[] #[.pointer (some ⟨b3540, 0, none⟩)]] (by kernel_rfl) (by kernel_rfl) ?_
  refine (c_slices_IndexFunc_85__i_balloonOf_1 w3541 x3533 p3535 c3536 (h3537.mem0 M3542) x3538 b3540 (M3542.blk 0 (b := b3540) (o := .cells ⟨[.int .i64 x3538]⟩ 3 (0, 0)) (by kernel_rfl)) hr3622).mono ?_
  rintro e_ w3623 ⟨rfl, K3624⟩
  have M3625 := M3542.call0 K3624
  refine ⟨_, rfl, ?_⟩
  refine W_run 1 [(0, .slice p3530 x3528.length c3531), (1, .slice p3535 x3533.length c3536), (8, .int .i64 r3622)] w3623 (by kernel_rfl) ?_
  refine W_nil ?_
  refine N_then ?_
  refine G_seq ?_
  obtain ⟨o3631, ho3632, hm3633⟩ := gx_bind hm
  refine G_meet (fun a w' => Mem [] w w' [] ∧ Sat Try.f59.ntmps [(6, .int .i64 o3631.1), (7, .bool o3631.2)] a) ?_ ?_
  · have hm := ho3632
    refine G_region ?_
    refine W_run 3 [(8, .int .i64 r3622), (12, .int .i64 r3622), (13, .slice p3530 x3528.length c3531), (14, .slice p3535 x3533.length c3536)] w3623 (by kernel_rfl) ?_
    obtain ⟨r3634, hr3634, hm⟩ := gx_bind hm
    refine W_call 17 #[.slice p3530 x3528.length c3531, .slice p3535 x3533.length c3536] (by kernel_rfl) (by kernel_rfl) ?_
    refine (c_i_AreBalloons w3623 x3528 p3530 c3531 (h3532.mem0 M3625) x3533 p3535 c3536 (h3537.mem0 M3625) hr3634).mono ?_
    rintro e_ w3635 ⟨rfl, K3636⟩
    have M3637 := M3625.call0 K3636
    refine ⟨_, rfl, ?_⟩
    refine W_run 1 [(8, .int .i64 r3622), (12, .int .i64 r3622), (16, .bool r3634)] w3635 (by kernel_rfl) ?_
    rcases gx_bif hm with ⟨hc3638, hm⟩ | ⟨hc3638, hm⟩
    · refine W_known 16 true (by kernel_rfl) hc3638 ?_
      refine W_run 5 [(6, .int .i64 r3622), (7, .bool (decide (r3622 ≥ 0)))] w3635 (by kernel_rfl) ?_
      refine W_nil ?_
      obtain rfl := Option.some.inj hm
      exact N_meet fun a ha => ⟨M3637.pick [] (by kernel_rfl), ha.sub (by kernel_rfl)⟩
    · refine W_known 16 false (by kernel_rfl) hc3638 ?_
      refine W_run 5 [(6, .int .i64 r3622), (7, .bool false)] w3635 (by kernel_rfl) ?_
      refine W_nil ?_
      obtain rfl := Option.some.inj hm
      exact N_meet fun a ha => ⟨M3637.pick [] (by kernel_rfl), ha.sub (by kernel_rfl)⟩
  · intro a3641 w3639 ⟨M3640, hS3642⟩
    refine N_use hS3642 ?_
    have hm := hm3633
    refine N_then ?_
    refine G_ret ?_
    obtain rfl := Option.some.inj hm
    refine N_ret [.int .i64 o3631.1, .bool o3631.2] (RVs_cons (RV_tmp (by kernel_rfl)) (RVs_cons (RV_tmp (by kernel_rfl)) RVs_nil)) ?_
    exact ⟨rfl, M3640.pick [] (by kernel_rfl)⟩
theorem c_i_copyInts (w : World) (x3702 : List Int) (p3704 : Option Addr) (c3705 : Nat) (h3706 : rdS encI w x3702 p3704 c3705) {r : (List Int)} (hm : M.i_copyInts x3702 = some r) :
    Calls Try.prog 62 #[.slice p3704 x3702.length c3705] w fun e w' => ∃ (p3708 : Option Addr) (c3709 : Nat) (sg3710 : Seg), e = .returned (.slice p3708 r.length c3709) ∧ ownS encI r p3708 c3709 sg3710 ∧ Mem [] w w' [sg3710] := by
  unfold M.i_copyInts at hm
  refine C_enter Try.func62 rfl (by kernel_rfl) ?_
  have M0 := Mem.refl [] w
  refine G_seq ?_
  refine G_region ?_
  refine W_run 1 [(0, .slice p3704 x3702.length c3705)] w (by kernel_rfl) ?_
  refine W_nil ?_
  refine N_then ?_
  refine G_seq ?_
  refine G_region ?_
  refine W_lit (E := encI) ([] : List Int) 0 [] 3 M0 (by kernel_rfl) (by kernel_rfl) (by kernel_rfl) (by kernel_rfl) (by kernel_rfl) ?_
  intro p3712 c3713 sg3714 w3715 ho3716 M3717
  refine W_run 1 [(3, .slice p3712 ([] : List Int).length c3713), (4, .slice p3704 x3702.length c3705)] w3715 (by kernel_rfl) ?_
  obtain ⟨ap3719, hap3719, hm⟩ := gx_bind hm
  refine W_append (E := encI) _ _ _ 8 [.int .i64 0] 0 c3705 M3717 ho3716 (by kernel_rfl) (by kernel_rfl) (by kernel_rfl) rfl (by kernel_rfl) (by kernel_rfl) (by kernel_rfl) (by kernel_rfl) (by kernel_rfl) (by kernel_rfl) (h3706.mem0 M3717) hap3719 ?_
  intro p3720 c3721 sg3722 w3723 ho3724 M3725
  refine W_run 1 [(2, .slice p3720 ap3719.length c3721)] w3723 (by kernel_rfl) ?_
  refine W_nil ?_
  refine N_then ?_
  refine G_ret ?_
  obtain rfl := Option.some.inj hm
  refine N_ret [.slice p3720 ap3719.length c3721] (RVs_cons (RV_tmp (by kernel_rfl)) RVs_nil) ?_
  exact ⟨p3720, c3721, sg3722, rfl, ho3724, M3725.pick [0] (by kernel_rfl)⟩
theorem c_i_newBalloons (w : World) (x3666 : List Balloon) (p3668 : Option Addr) (c3669 : Nat) (h3670 : rdD deepBalloon w x3666 p3668 c3669) {r : (List Balloon)} (hm : M.i_newBalloons x3666 = some r) :
    Calls Try.prog 60 #[.slice p3668 x3666.length c3669] w fun e w' => ∃ (p3672 : Option Addr) (c3673 : Nat) (sg3674 : Seg) (sg3675 : Seg), e = .returned (.slice p3672 r.length c3673) ∧ ownD deepBalloon r p3672 c3673 sg3674 sg3675 ∧ Mem [] w w' [sg3674, sg3675] := by
  unfold M.i_newBalloons at hm
  refine C_enter Try.func60 rfl (by kernel_rfl) ?_
  have M0 := Mem.refl [] w
  refine G_seq ?_
  refine G_region ?_
  refine W_run 1 [(0, .slice p3668 x3666.length c3669)] w (by kernel_rfl) ?_
  refine W_nil ?_
  refine N_then ?_
  refine G_seq ?_
  refine G_region ?_
  have M3677 : Mem [] w w [] := M0.pick [] (by kernel_rfl)
  have M3678 : Mem [] w w [[]] := M3677.regroup (by simp)
  refine W_litD (D := deepBalloon) [] ([] : List Balloon) rfl 0 [] 50 M3678 (by kernel_rfl) (by kernel_rfl) (by kernel_rfl) (by kernel_rfl) (by kernel_rfl) ownI_nil ?_
  intro p3679 c3680 sg3681 w3682 ho3683 M3684
  refine W_run 1 [(0, .slice p3668 x3666.length c3669), (3, .slice p3679 ([] : List Balloon).length c3680)] w3682 (by kernel_rfl) ?_
  refine W_nil ?_
  refine N_then ?_
  refine G_seq ?_
  refine G_seq ?_
  refine G_region ?_
  refine W_run 3 [(3, .slice p3679 ([] : List Balloon).length c3680), (7, .slice p3668 x3666.length c3669), (8, .int .i64 (x3666.length : Int)), (9, .int .i64 0)] w3682 (by kernel_rfl) ?_
  refine W_nil ?_
  refine N_then ?_
  obtain ⟨out3828, hw3829, hmo3830⟩ := gx_bind hm
  refine G_meet (fun a w' => ∃ (p3838 : Option Addr), ∃ (c3839 : Nat), ∃ (sg3840 : Seg), ∃ (sg3841 : Seg), ownD deepBalloon out3828 p3838 c3839 sg3840 sg3841 ∧ Mem [] w w' [sg3840, sg3841] ∧ Sat Try.f60.ntmps [(3, .slice p3838 out3828.length c3839)] a) ?_ ?_
  · refine G_block ?_
    refine G_while (σ := List Balloon × Int) (ρ := List Balloon) (fun s3821 a w' => ∃ (p3831 : Option Addr), ∃ (c3832 : Nat), ∃ (sg3833 : Seg), ∃ (sg3834 : Seg), ownD deepBalloon s3821.1 p3831 c3832 sg3833 sg3834 ∧ Mem [] w w' [sg3833, sg3834] ∧ Sat Try.f60.ntmps [(3, .slice p3831 s3821.1.length c3832), (7, .slice p3668 x3666.length c3669), (8, .int .i64 (x3666.length : Int)), (9, .int .i64 s3821.2)] a) hw3829 (fun a ha => ⟨p3679, c3680, sg3681, [], ho3683, M3684.pick [1, 0] (by kernel_rfl), ha.sub (by kernel_rfl)⟩) ?_
    clear hm
    intro s3821 x3822 hm hout3823 a3824 w3825 ⟨p3831, c3832, sg3833, sg3834, ho3835, M3826, hS3827⟩
    refine G_use hS3827 ?_
    refine G_seq ?_
    refine G_region ?_
    refine W_run 1 [(3, .slice p3831 s3821.1.length c3832), (7, .slice p3668 x3666.length c3669), (8, .int .i64 (x3666.length : Int)), (9, .int .i64 s3821.2), (10, .bool (decide (s3821.2 < (x3666.length : Int))))] w3825 (by kernel_rfl) ?_
    refine W_nil ?_
    refine N_then ?_
    refine G_seq ?_
    rcases gx_bif hm with ⟨hc3844, hm⟩ | ⟨hc3844, hm⟩
    · refine G_cond_t (b := (decide (s3821.2 < (x3666.length : Int)))) hc3844 (by kernel_rfl) ?_
      refine G_skip ?_
      refine N_then ?_
      refine G_seq ?_
      refine G_block ?_
      refine G_seq ?_
      refine G_region ?_
      obtain ⟨y3845, hy3845, hm⟩ := gx_bind hm
      obtain ⟨zs3846, hz3847, hr3848, hi3849⟩ := id h3670
      obtain ⟨g3850, hg3851⟩ := gxIdx_fst hz3847 hy3845
      refine W_val (elemP p3668 (s3821.2.toNat * 3)) w3825 (by kernel_rfl) (E_index (E := deepBalloon.E) _ _ _ x3666.length c3669 .i64 s3821.2 3 (y := (y3845, g3850)) rfl (by kernel_rfl) (by kernel_rfl) (by kernel_rfl) (hr3848.mem0 M3826) (len_fst hz3847) hg3851) ?_
      refine W_val (.agg #[.int .i64 y3845.Guest, .int .i64 y3845.Goal, .slice ((g3850 0).1) y3845.Gave.length ((g3850 0).2)]) w3825 (by kernel_rfl) (E_loadE (E := deepBalloon.E) _ _ true 3 s3821.2 0 (s3821.2.toNat * 3) (y3845, g3850) (.agg #[.int .i64 y3845.Guest, .int .i64 y3845.Goal, .slice ((g3850 0).1) y3845.Gave.length ((g3850 0).2)]) rfl (by kernel_rfl) (by kernel_rfl) (by kernel_rfl) (hr3848.mem0 M3826) hg3851 rfl) ?_
      refine W_new (fun b => .pointer (some ⟨b, 0, none⟩)) (.cells ⟨[.int .i64 0, .int .i64 0, .slice none 0 0]⟩ 50 (0, 0)) M3826 rfl (by kernel_rfl) (by kernel_rfl) ?_
      intro b3855 w3856 M3857
      refine W_store _ _ _ true 3 b3855 0 [.int .i64 0, .int .i64 0, .slice none 0 0] 50 (.agg #[.int .i64 y3845.Guest, .int .i64 y3845.Goal, .slice ((g3850 0).1) y3845.Gave.length ((g3850 0).2)]) 2 [.int .i64 y3845.Guest, .int .i64 y3845.Goal, .slice ((g3850 0).1) y3845.Gave.length ((g3850 0).2)] M3857 (by kernel_rfl) rfl (by kernel_rfl) (by kernel_rfl) (by kernel_rfl) (by kernel_rfl) (by kernel_rfl) (by kernel_rfl) (by kernel_rfl) (by kernel_rfl) ?_
      intro w3858 M3859
      refine W_nil ?_
      refine N_then ?_
      refine G_seq ?_
      refine G_region ?_
      refine W_run 1 [(3, .slice p3831 s3821.1.length c3832), (5, .pointer (some ⟨b3855, 0, none⟩)), (7, .slice p3668 x3666.length c3669), (8, .int .i64 (x3666.length : Int)), (9, .int .i64 s3821.2), (13, .pointer (some ⟨b3855, 2, none⟩))] w3858 (by kernel_rfl) ?_
      refine W_val (.slice ((g3850 0).1) y3845.Gave.length ((g3850 0).2)) w3858 (by kernel_rfl) (E_load (e := 50) (fr := (0, 0)) _ _ false 1 b3855 2 [.int .i64 y3845.Guest, .int .i64 y3845.Goal, .slice ((g3850 0).1) y3845.Gave.length ((g3850 0).2)] (.slice ((g3850 0).1) y3845.Gave.length ((g3850 0).2)) rfl (by kernel_rfl) (by kernel_rfl) (by kernel_rfl) (M3859.blk 2 (b := b3855) (o := .cells ⟨[.int .i64 y3845.Guest, .int .i64 y3845.Goal, .slice ((g3850 0).1) y3845.Gave.length ((g3850 0).2)]⟩ 50 (0, 0)) (by kernel_rfl))) ?_
      obtain ⟨r3860, hr3860, hm⟩ := gx_bind hm
      refine W_call 62 #[.slice ((g3850 0).1) y3845.Gave.length ((g3850 0).2)] (by kernel_rfl) (by kernel_rfl) ?_
      refine (c_i_copyInts w3858 y3845.Gave ((g3850 0).1) ((g3850 0).2) ((hi3849.mem0 M3859).at_ hg3851 0 ⟨Int, encI, y3845.Gave, (g3850 0).1, (g3850 0).2⟩ (by kernel_rfl)) hr3860).mono ?_
      rintro e_ w3866 ⟨p3862, c3863, sg3864, rfl, ho3865, K3867⟩
      have M3868 := M3859.call K3867
      refine ⟨_, rfl, ?_⟩
      refine W_run 1 [(3, .slice p3831 s3821.1.length c3832), (5, .pointer (some ⟨b3855, 0, none⟩)), (7, .slice p3668 x3666.length c3669), (8, .int .i64 (x3666.length : Int)), (9, .int .i64 s3821.2), (15, .slice p3862 r3860.length c3863), (16, .pointer (some ⟨b3855, 2, none⟩))] w3866 (by kernel_rfl) ?_
      refine W_store _ _ _ false 1 b3855 2 [.int .i64 y3845.Guest, .int .i64 y3845.Goal, .slice ((g3850 0).1) y3845.Gave.length ((g3850 0).2)] 50 (.slice p3862 r3860.length c3863) 2 [.int .i64 y3845.Guest, .int .i64 y3845.Goal, .slice p3862 r3860.length c3863] M3868 (by kernel_rfl) rfl (by kernel_rfl) (by kernel_rfl) (by kernel_rfl) (by kernel_rfl) (by kernel_rfl) (by kernel_rfl) (by kernel_rfl) (by kernel_rfl) ?_
      intro w3869 M3870
      refine W_nil ?_
      refine N_then ?_
      refine G_region ?_
      refine W_run 1 [(3, .slice p3831 s3821.1.length c3832), (5, .pointer (some ⟨b3855, 0, none⟩)), (7, .slice p3668 x3666.length c3669), (8, .int .i64 (x3666.length : Int)), (9, .int .i64 s3821.2), (17, .slice p3831 s3821.1.length c3832)] w3869 (by kernel_rfl) ?_
      refine W_val (.agg #[.int .i64 y3845.Guest, .int .i64 y3845.Goal, .slice p3862 r3860.length c3863]) w3869 (by kernel_rfl) (E_load (e := 50) (fr := (0, 0)) _ _ true 3 b3855 0 [.int .i64 y3845.Guest, .int .i64 y3845.Goal, .slice p3862 r3860.length c3863] (.agg #[.int .i64 y3845.Guest, .int .i64 y3845.Goal, .slice p3862 r3860.length c3863]) rfl (by kernel_rfl) (by kernel_rfl) (by kernel_rfl) (M3870.blk 2 (b := b3855) (o := .cells ⟨[.int .i64 y3845.Guest, .int .i64 y3845.Goal, .slice p3862 r3860.length c3863]⟩ 50 (0, 0)) (by kernel_rfl))) ?_
      have M3872 : Mem [] w w3869 [sg3833, sg3834, [(b3855, .cells ⟨[.int .i64 y3845.Guest, .int .i64 y3845.Goal, .slice p3862 r3860.length c3863]⟩ 50 (0, 0))], sg3864] := M3870.pick [0, 1, 2, 3] (by kernel_rfl)
      have M3873 : Mem [] w w3869 [sg3833, sg3834, [(b3855, .cells ⟨[.int .i64 y3845.Guest, .int .i64 y3845.Goal, .slice p3862 r3860.length c3863]⟩ 50 (0, 0))], (sg3864 ++ [])] := M3872.regroup (by simp)
      refine W_litD (D := deepBalloon) [((⟨y3845.Guest, y3845.Goal, r3860⟩ : Balloon), plOf [(p3862, c3863)])] [(⟨y3845.Guest, y3845.Goal, r3860⟩ : Balloon)] rfl 1 [.int .i64 y3845.Guest, .int .i64 y3845.Goal, .slice p3862 r3860.length c3863] 50 M3873 (by kernel_rfl) (by kernel_rfl) (by kernel_rfl) (by kernel_rfl) (by kernel_rfl) (ownI_cons (i := ⟨Int, encI, _, _, _⟩) ho3865 ownI_nil) ?_
      intro p3874 c3875 sg3876 w3877 ho3878 M3879
      obtain ⟨ap3881, hap3881, hm⟩ := gx_bind hm
      obtain ⟨zs3883, hz3884, hr3885, hi3886⟩ := id ho3878
      refine W_appendD (D := deepBalloon) (us := zs3883) (s2 := (sg3864 ++ [])) _ _ _ 40 [.int .i64 0, .int .i64 0, .slice none 0 0] 0 c3875 M3879 ho3835 (by kernel_rfl) (by kernel_rfl) (by kernel_rfl) rfl (by kernel_rfl) (by kernel_rfl) (by kernel_rfl) (by kernel_rfl) (by kernel_rfl) (by kernel_rfl) (hr3885.rd M3879 4 (by kernel_rfl)) hz3884 hi3886 hap3881 ?_
      intro p3887 c3888 sg3889 w3890 ho3891 M3892
      have M3893 : Mem [] w w3890 [sg3889, [(b3855, .cells ⟨[.int .i64 y3845.Guest, .int .i64 y3845.Goal, .slice p3862 r3860.length c3863]⟩ 50 (0, 0))], sg3876, sg3834, (sg3864 ++ [])] := M3892.pick [0, 2, 4, 1, 3] (by kernel_rfl)
      have M3894 : Mem [] w w3890 [sg3889, [(b3855, .cells ⟨[.int .i64 y3845.Guest, .int .i64 y3845.Goal, .slice p3862 r3860.length c3863]⟩ 50 (0, 0))], sg3876, (sg3834 ++ (sg3864 ++ []))] := M3893.regroup (by simp)
      refine W_run 1 [(3, .slice p3887 ap3881.length c3888), (7, .slice p3668 x3666.length c3669), (8, .int .i64 (x3666.length : Int)), (9, .int .i64 s3821.2)] w3890 (by kernel_rfl) ?_
      refine W_nil ?_
      refine N_block ?_
      refine N_then ?_
      refine G_region ?_
      refine W_run 2 [(3, .slice p3887 ap3881.length c3888), (7, .slice p3668 x3666.length c3669), (8, .int .i64 (x3666.length : Int)), (9, .int .i64 (w64 (s3821.2 + 1)))] w3890 (by kernel_rfl) ?_
      refine W_nil ?_
      obtain rfl := Option.some.inj hm
      exact N_loop fun a ha => ⟨_, rfl, p3887, c3888, sg3889, (sg3834 ++ (sg3864 ++ [])), ho3891, M3894.pick [0, 3] (by kernel_rfl), ha.sub (by kernel_rfl)⟩
    · refine G_cond_f (b := (decide (s3821.2 < (x3666.length : Int)))) hc3844 (by kernel_rfl) ?_
      refine G_exit ?_
      refine N_then_exit ?_
      refine N_then_exit ?_
      refine N_block_eq ?_
      obtain rfl := Option.some.inj hm
      obtain rfl := hout3823 _ rfl
      exact N_meet fun a ha => ⟨p3831, c3832, sg3833, sg3834, ho3835, M3826.pick [0, 1] (by kernel_rfl), ha.sub (by kernel_rfl)⟩
  · intro a3896 w3897 ⟨p3838, c3839, sg3840, sg3841, ho3842, M3898, hS3899⟩
    refine N_use hS3899 ?_
    have hm := hmo3830
    refine N_then ?_
    refine G_seq ?_
    refine G_region ?_
    refine W_run 2 [(2, .slice p3838 out3828.length c3839)] w3897 (by kernel_rfl) ?_
    refine W_nil ?_
    refine N_then ?_
    refine G_ret ?_
    obtain rfl := Option.some.inj hm
    refine N_ret [.slice p3838 out3828.length c3839] (RVs_cons (RV_tmp (by kernel_rfl)) RVs_nil) ?_
    exact ⟨p3838, c3839, sg3840, sg3841, rfl, ho3842, M3898.pick [0, 1] (by kernel_rfl)⟩
theorem c_i_SetGoal (w : World) (x3510 : List Int) (p3512 : Option Addr) (c3513 : Nat) (h3514 : rdS encI w x3510 p3512 c3513) (x3515 : List Balloon) (p3517 : Option Addr) (c3518 : Nat) (h3519 : rdD deepBalloon w x3515 p3517 c3518) (x3520 : Int) (x3521 : Int) {r : (List Balloon) × Bool} (hm : M.i_SetGoal x3510 x3515 x3520 x3521 = some r) :
    Calls Try.prog 23 #[.slice p3512 x3510.length c3513, .slice p3517 x3515.length c3518, .int .i64 x3520, .int .i64 x3521] w fun e w' => ∃ (p3523 : Option Addr) (c3524 : Nat) (sg3525 : Seg) (sg3526 : Seg), e = .returned (.tuple #[.slice p3523 r.1.length c3524, .bool r.2]) ∧ ownD deepBalloon r.1 p3523 c3524 sg3525 sg3526 ∧ Mem [] w w' [sg3525, sg3526] := by
  unfold M.i_SetGoal at hm
  refine C_enter Try.func23 rfl (by kernel_rfl) ?_
  have M0 := Mem.refl [] w
  refine G_seq ?_
  refine G_region ?_
  refine W_run 2 [(0, .slice p3512 x3510.length c3513), (1, .slice p3517 x3515.length c3518), (2, .int .i64 x3520), (3, .int .i64 x3521)] w (by kernel_rfl) ?_
  refine W_nil ?_
  refine N_then ?_
  refine G_seq ?_
  refine G_region ?_
  refine W_run 3 [(1, .slice p3517 x3515.length c3518), (3, .int .i64 x3521), (14, .slice p3512 x3510.length c3513), (15, .slice p3517 x3515.length c3518), (16, .int .i64 x3520)] w (by kernel_rfl) ?_
  obtain ⟨r3643, hr3643, hm⟩ := gx_bind hm
  refine W_call 59 #[.slice p3512 x3510.length c3513, .slice p3517 x3515.length c3518, .int .i64 x3520] (by kernel_rfl) (by kernel_rfl) ?_
  refine (c_i_balloonOf w x3510 p3512 c3513 (h3514.mem0 M0) x3515 p3517 c3518 (h3519.mem0 M0) x3520 hr3643).mono ?_
  rintro e_ w3644 ⟨rfl, K3645⟩
  have M3646 := M0.call0 K3645
  refine ⟨_, rfl, ?_⟩
  refine W_run 5 [(1, .slice p3517 x3515.length c3518), (3, .int .i64 x3521), (10, .int .i64 r3643.1), (11, .bool r3643.2)] w3644 (by kernel_rfl) ?_
  refine W_nil ?_
  refine N_then ?_
  refine G_seq ?_
  refine G_seq ?_
  obtain ⟨o3652, ho3653, hm3654⟩ := gx_bind hm
  refine G_meet (fun a w' => Mem [] w w' [] ∧ Sat Try.f23.ntmps [(1, .slice p3517 x3515.length c3518), (3, .int .i64 x3521), (10, .int .i64 r3643.1), (26, .bool o3652)] a) ?_ ?_
  · have hm := ho3653
    refine G_region ?_
    refine W_run 3 [(1, .slice p3517 x3515.length c3518), (3, .int .i64 x3521), (10, .int .i64 r3643.1), (22, .bool (!r3643.2))] w3644 (by kernel_rfl) ?_
    rcases gx_bif hm with ⟨hc3655, hm⟩ | ⟨hc3655, hm⟩
    · refine W_known 22 true (by kernel_rfl) hc3655 ?_
      refine W_run 4 [(1, .slice p3517 x3515.length c3518), (3, .int .i64 x3521), (10, .int .i64 r3643.1), (26, .bool true)] w3644 (by kernel_rfl) ?_
      refine W_nil ?_
      obtain rfl := Option.some.inj hm
      exact N_meet fun a ha => ⟨M3646.pick [] (by kernel_rfl), ha.sub (by kernel_rfl)⟩
    · refine W_known 22 false (by kernel_rfl) hc3655 ?_
      refine W_run 1 [(1, .slice p3517 x3515.length c3518), (3, .int .i64 x3521), (10, .int .i64 r3643.1), (22, .bool false), (23, .int .i64 x3521)] w3644 (by kernel_rfl) ?_
      obtain ⟨r3656, hr3656, hm⟩ := gx_bind hm
      refine W_call 51 #[.int .i64 x3521] (by kernel_rfl) (by kernel_rfl) ?_
      refine (c_i_isGoal w3644 x3521 hr3656).mono ?_
      rintro e_ w3657 ⟨rfl, K3658⟩
      have M3659 := M3646.call0 K3658
      refine ⟨_, rfl, ?_⟩
      refine W_run 2 [(1, .slice p3517 x3515.length c3518), (3, .int .i64 x3521), (10, .int .i64 r3643.1), (26, .bool (!r3656))] w3657 (by kernel_rfl) ?_
      refine W_nil ?_
      obtain rfl := Option.some.inj hm
      exact N_meet fun a ha => ⟨M3659.pick [] (by kernel_rfl), ha.sub (by kernel_rfl)⟩
  · intro a3662 w3660 ⟨M3661, hS3663⟩
    refine N_use hS3663 ?_
    have hm := hm3654
    refine N_then ?_
    rcases gx_bif hm with ⟨hc3664, hm⟩ | ⟨hc3664, hm⟩
    · refine G_cond_t (b := o3652) hc3664 (by kernel_rfl) ?_
      refine G_seq ?_
      refine G_region ?_
      refine W_run 2 [(8, .slice none 0 0), (9, .bool false)] w3660 (by kernel_rfl) ?_
      refine W_nil ?_
      refine N_then ?_
      refine G_ret ?_
      refine N_then_ret ?_
      obtain rfl := Option.some.inj hm
      refine N_ret [.slice none 0 0, .bool false] (RVs_cons (RV_tmp (by kernel_rfl)) (RVs_cons (RV_tmp (by kernel_rfl)) RVs_nil)) ?_
      exact ⟨none, 0, [], [], rfl, ownD_nil, M3661.pick [100000, 100001] (by kernel_rfl)⟩
    · refine G_cond_f (b := o3652) hc3664 (by kernel_rfl) ?_
      refine G_skip ?_
      refine N_then ?_
      refine G_seq ?_
      refine G_region ?_
      refine W_run 1 [(3, .int .i64 x3521), (10, .int .i64 r3643.1), (27, .slice p3517 x3515.length c3518)] w3660 (by kernel_rfl) ?_
      obtain ⟨r3900, hr3900, hm⟩ := gx_bind hm
      refine W_call 60 #[.slice p3517 x3515.length c3518] (by kernel_rfl) (by kernel_rfl) ?_
      refine (c_i_newBalloons w3660 x3515 p3517 c3518 (h3519.mem0 M3661) hr3900).mono ?_
      rintro e_ w3907 ⟨p3902, c3903, sg3904, sg3905, rfl, ho3906, K3908⟩
      have M3909 := M3661.call K3908
      refine ⟨_, rfl, ?_⟩
      refine W_run 1 [(3, .int .i64 x3521), (10, .int .i64 r3643.1), (12, .slice p3902 r3900.length c3903)] w3907 (by kernel_rfl) ?_
      refine W_nil ?_
      refine N_then ?_
      refine G_seq ?_
      refine G_region ?_
      refine W_run 3 [(12, .slice p3902 r3900.length c3903), (29, .slice p3902 r3900.length c3903), (30, .int .i64 r3643.1), (31, .int .i64 x3521)] w3907 (by kernel_rfl) ?_
      obtain ⟨y3910, hy3910, hm⟩ := gx_bind hm
      obtain ⟨zs3911, hz3912, hr3913, hi3914⟩ := id ho3906
      obtain ⟨g3915, hg3916⟩ := gxIdx_fst hz3912 hy3910
      refine W_val (elemP p3902 (r3643.1.toNat * 3)) w3907 (by kernel_rfl) (E_index (E := deepBalloon.E) _ _ _ r3900.length c3903 .i64 r3643.1 3 (y := (y3910, g3915)) rfl (by kernel_rfl) (by kernel_rfl) (by kernel_rfl) (hr3913.rd M3909 0 (by kernel_rfl)) (len_fst hz3912) hg3916) ?_
      refine W_val (elemP p3902 (r3643.1.toNat * 3 + 1)) w3907 (by kernel_rfl) (E_fieldE (E := deepBalloon.E) _ _ 1 (r3643.1.toNat * 3) 1 rfl (by kernel_rfl) (by kernel_rfl) (hr3913.rd M3909 0 (by kernel_rfl)) hg3916) ?_
      refine W_storeE (E := deepBalloon.E) _ _ _ false 1 r3643.1.toNat 1 (r3643.1.toNat * 3 + 1) (y3910, g3915) ((⟨y3910.Guest, x3521, y3910.Gave⟩ : Balloon), g3915) (.int .i64 x3521) 0 M3909 hr3913 (by kernel_rfl) (by kernel_rfl) rfl (by kernel_rfl) (by kernel_rfl) (by kernel_rfl) (by kernel_rfl) (by kernel_rfl) (by kernel_rfl) (by kernel_rfl) (gxIdx_spec hg3916).2 rfl ?_
      intro w3918 sg3920 ho3921 M3919
      have ho3922 : ownD deepBalloon (r3900.set r3643.1.toNat (⟨y3910.Guest, x3521, y3910.Gave⟩ : Balloon)) p3902 c3903 sg3920 sg3905 := ⟨_, set_fst hz3912 r3643.1.toNat ((⟨y3910.Guest, x3521, y3910.Gave⟩ : Balloon), g3915), ho3921, (by rw [flatMap_setSame (gxIdx_spec hg3916).2 (by kernel_rfl)]; exact hi3914)⟩
      refine W_conv 12 (.slice p3902 r3900.length c3903) (.slice p3902 (r3900.set r3643.1.toNat (⟨y3910.Guest, x3521, y3910.Gave⟩ : Balloon)).length c3903) (by kernel_rfl) (by rw [@List.length_set _ r3900 r3643.1.toNat (⟨y3910.Guest, x3521, y3910.Gave⟩ : Balloon)]) ?_
      refine W_conv 29 (.slice p3902 r3900.length c3903) (.slice p3902 (r3900.set r3643.1.toNat (⟨y3910.Guest, x3521, y3910.Gave⟩ : Balloon)).length c3903) (by kernel_rfl) (by rw [@List.length_set _ r3900 r3643.1.toNat (⟨y3910.Guest, x3521, y3910.Gave⟩ : Balloon)]) ?_
      refine W_nil ?_
      refine N_then ?_
      refine G_seq ?_
      refine G_region ?_
      refine W_run 3 [(8, .slice p3902 (r3900.set r3643.1.toNat (⟨y3910.Guest, x3521, y3910.Gave⟩ : Balloon)).length c3903), (9, .bool true)] w3918 (by kernel_rfl) ?_
      refine W_nil ?_
      refine N_then ?_
      refine G_ret ?_
      obtain rfl := Option.some.inj hm
      refine N_ret [.slice p3902 (r3900.set r3643.1.toNat (⟨y3910.Guest, x3521, y3910.Gave⟩ : Balloon)).length c3903, .bool true] (RVs_cons (RV_tmp (by kernel_rfl)) (RVs_cons (RV_tmp (by kernel_rfl)) RVs_nil)) ?_
      exact ⟨p3902, c3903, sg3920, sg3905, rfl, ho3922, M3919.pick [0, 1] (by kernel_rfl)⟩
theorem c_l_markIntS (w : World) (x3980 : List Int) (p3982 : Option Addr) (c3983 : Nat) (sg3984 : Seg) (ho3985 : ownS encI x3980 p3982 c3983 sg3984) (x3986 : Int) (hA : ∀ q ∈ List.flatten [sg3984], w.heap[q.1]? = some q.2) (hN : (idsOf [sg3984]).Nodup) {r : Int × (List Int)} (hm : M.l_markIntS x3980 x3986 = some r) :
    Calls Try.prog 24 #[.slice p3982 x3980.length c3983, .int .i64 x3986] w fun e w' => ∃ (sg3987 : Seg), e = .returned (.int .i64 r.1) ∧ ownS encI r.2 p3982 c3983 sg3987 ∧ r.2.length = x3980.length ∧ Mem (idsOf [sg3984]) w w' [sg3987] := by
  unfold M.l_markIntS at hm
  refine C_enter Try.func24 rfl (by kernel_rfl) ?_
  have M0 := Mem.start' w [sg3984] hA hN
  refine G_seq ?_
  refine G_region ?_
  refine W_run 1 [(0, .slice p3982 x3980.length c3983), (1, .int .i64 x3986)] w (by kernel_rfl) ?_
  refine W_nil ?_
  refine N_then ?_
  refine G_seq ?_
  refine G_seq ?_
  refine G_region ?_
  refine W_run 1 [(0, .slice p3982 x3980.length c3983), (1, .int .i64 x3986), (5, .int .i64 0)] w (by kernel_rfl) ?_
  refine W_nil ?_
  refine N_then ?_
  obtain ⟨out4010, hw4011, hmo4012⟩ := gx_bind hm
  refine G_meet (fun a w' => ∃ (sg4017 : Seg), ownS encI out4010.2 p3982 c3983 sg4017 ∧ out4010.2.length = x3980.length ∧ Mem (idsOf [sg3984]) w w' [sg4017] ∧ Sat Try.f24.ntmps [(1, .int .i64 out4010.1)] a) ?_ ?_
  · refine G_block ?_
    refine G_while (σ := Int × Int × List Int) (ρ := Int × List Int) (fun s4003 a w' => ∃ (sg4013 : Seg), ownS encI s4003.2.2 p3982 c3983 sg4013 ∧ s4003.2.2.length = x3980.length ∧ Mem (idsOf [sg3984]) w w' [sg4013] ∧ Sat Try.f24.ntmps [(0, .slice p3982 s4003.2.2.length c3983), (1, .int .i64 s4003.1), (5, .int .i64 s4003.2.1)] a) hw4011 (fun a ha => ⟨sg3984, ho3985, rfl, M0.pick [0] (by kernel_rfl), ha.sub (by kernel_rfl)⟩) ?_
    clear hm
    intro s4003 x4004 hm hout4005 a4006 w4007 ⟨sg4013, ho4014, hl4015, M4008, hS4009⟩
    refine G_use hS4009 ?_
    refine G_seq ?_
    refine G_seq ?_
    refine G_region ?_
    refine W_run 4 [(0, .slice p3982 s4003.2.2.length c3983), (1, .int .i64 s4003.1), (5, .int .i64 s4003.2.1), (9, .bool (decide (s4003.2.1 < (s4003.2.2.length : Int))))] w4007 (by kernel_rfl) ?_
    refine W_nil ?_
    refine N_then ?_
    rcases gx_bif hm with ⟨hc4020, hm⟩ | ⟨hc4020, hm⟩
    · refine G_cond_t (b := (decide (s4003.2.1 < (s4003.2.2.length : Int)))) hc4020 (by kernel_rfl) ?_
      refine G_skip ?_
      refine N_then ?_
      refine G_seq ?_
      refine G_block ?_
      refine G_seq ?_
      refine G_region ?_
      refine W_run 3 [(0, .slice p3982 s4003.2.2.length c3983), (1, .int .i64 s4003.1), (5, .int .i64 s4003.2.1), (12, .slice p3982 s4003.2.2.length c3983), (13, .int .i64 s4003.2.1), (14, .int .i64 s4003.1)] w4007 (by kernel_rfl) ?_
      obtain ⟨y4021, hy4021, hm⟩ := gx_bind hm
      refine W_val (elemP p3982 (s4003.2.1.toNat * 1)) w4007 (by kernel_rfl) (E_index (E := encI) _ _ _ s4003.2.2.length c3983 .i64 s4003.2.1 1 (y := y4021) rfl (by kernel_rfl) (by kernel_rfl) (by kernel_rfl) (ho4014.rd M4008 0 (by kernel_rfl)) rfl hy4021) ?_
      refine W_storeE (E := encI) _ _ _ false 1 s4003.2.1.toNat 0 (s4003.2.1.toNat * 1) y4021 s4003.1 (.int .i64 s4003.1) 0 M4008 ho4014 (by kernel_rfl) (by kernel_rfl) rfl (by kernel_rfl) (by kernel_rfl) (by kernel_rfl) (by kernel_rfl) (by kernel_rfl) (by kernel_rfl) (by kernel_rfl) (gxIdx_spec hy4021).2 rfl ?_
      intro w4022 sg4024 ho4025 M4023
      refine W_conv 0 (.slice p3982 s4003.2.2.length c3983) (.slice p3982 (s4003.2.2.set s4003.2.1.toNat s4003.1).length c3983) (by kernel_rfl) (by rw [@List.length_set _ s4003.2.2 s4003.2.1.toNat s4003.1]) ?_
      refine W_conv 12 (.slice p3982 s4003.2.2.length c3983) (.slice p3982 (s4003.2.2.set s4003.2.1.toNat s4003.1).length c3983) (by kernel_rfl) (by rw [@List.length_set _ s4003.2.2 s4003.2.1.toNat s4003.1]) ?_
      refine W_nil ?_
      refine N_then ?_
      refine G_region ?_
      refine W_run 3 [(0, .slice p3982 (s4003.2.2.set s4003.2.1.toNat s4003.1).length c3983), (1, .int .i64 (w64 (s4003.1 + 1))), (5, .int .i64 s4003.2.1)] w4022 (by kernel_rfl) ?_
      refine W_nil ?_
      refine N_block ?_
      refine N_then ?_
      refine G_region ?_
      refine W_run 3 [(0, .slice p3982 (s4003.2.2.set s4003.2.1.toNat s4003.1).length c3983), (1, .int .i64 (w64 (s4003.1 + 1))), (5, .int .i64 (w64 (s4003.2.1 + 1)))] w4022 (by kernel_rfl) ?_
      refine W_nil ?_
      obtain rfl := Option.some.inj hm
      exact N_loop fun a ha => ⟨_, rfl, sg4024, ho4025, (List.length_set.trans hl4015), M4023.pick [0] (by kernel_rfl), ha.sub (by kernel_rfl)⟩
    · refine G_cond_f (b := (decide (s4003.2.1 < (s4003.2.2.length : Int)))) hc4020 (by kernel_rfl) ?_
      refine G_exit ?_
      refine N_then_exit ?_
      refine N_then_exit ?_
      refine N_block_eq ?_
      obtain rfl := Option.some.inj hm
      obtain rfl := hout4005 _ rfl
      exact N_meet fun a ha => ⟨sg4013, ho4014, hl4015, M4008.pick [0] (by kernel_rfl), ha.sub (by kernel_rfl)⟩
  · intro a4026 w4027 ⟨sg4017, ho4018, hl4019, M4028, hS4029⟩
    refine N_use hS4029 ?_
    have hm := hmo4012
    refine N_then ?_
    refine G_seq ?_
    refine G_region ?_
    refine W_run 2 [(4, .int .i64 out4010.1)] w4027 (by kernel_rfl) ?_
    refine W_nil ?_
    refine N_then ?_
    refine G_ret ?_
    obtain rfl := Option.some.inj hm
    refine N_ret [.int .i64 out4010.1] (RVs_cons (RV_tmp (by kernel_rfl)) RVs_nil) ?_
    exact ⟨sg4017, rfl, ho4018, hl4019, M4028.pick [0] (by kernel_rfl)⟩
theorem c_l_markBalloonS (w : World) (x4037 : List Balloon) (p4039 : Option Addr) (c4040 : Nat) (sg4041 : Seg) (sg4042 : Seg) (ho4043 : ownD deepBalloon x4037 p4039 c4040 sg4041 sg4042) (x4044 : Int) (hA : ∀ q ∈ List.flatten [sg4041, sg4042], w.heap[q.1]? = some q.2) (hN : (idsOf [sg4041, sg4042]).Nodup) {r : Int × (List Balloon)} (hm : M.l_markBalloonS x4037 x4044 = some r) :
    Calls Try.prog 25 #[.slice p4039 x4037.length c4040, .int .i64 x4044] w fun e w' => ∃ (sg4045 : Seg) (sg4046 : Seg), e = .returned (.int .i64 r.1) ∧ ownD deepBalloon r.2 p4039 c4040 sg4045 sg4046 ∧ r.2.length = x4037.length ∧ Mem (idsOf [sg4041, sg4042]) w w' [sg4045, sg4046] := by
  unfold M.l_markBalloonS at hm
  refine C_enter Try.func25 rfl (by kernel_rfl) ?_
  have M0 := Mem.start' w [sg4041, sg4042] hA hN
  refine G_seq ?_
  refine G_region ?_
  refine W_run 1 [(0, .slice p4039 x4037.length c4040), (1, .int .i64 x4044)] w (by kernel_rfl) ?_
  refine W_nil ?_
  refine N_then ?_
  refine G_seq ?_
  refine G_seq ?_
  refine G_region ?_
  refine W_run 1 [(0, .slice p4039 x4037.length c4040), (1, .int .i64 x4044), (5, .int .i64 0)] w (by kernel_rfl) ?_
  refine W_nil ?_
  refine N_then ?_
  obtain ⟨out4178, hw4179, hmo4180⟩ := gx_bind hm
  refine G_meet (fun a w' => ∃ (sg4186 : Seg), ∃ (sg4187 : Seg), ownD deepBalloon out4178.2 p4039 c4040 sg4186 sg4187 ∧ out4178.2.length = x4037.length ∧ Mem (idsOf [sg4041, sg4042]) w w' [sg4186, sg4187] ∧ Sat Try.f25.ntmps [(1, .int .i64 out4178.1)] a) ?_ ?_
  · refine G_block ?_
    refine G_while (σ := Int × Int × List Balloon) (ρ := Int × List Balloon) (fun s4171 a w' => ∃ (sg4181 : Seg), ∃ (sg4182 : Seg), ownD deepBalloon s4171.2.2 p4039 c4040 sg4181 sg4182 ∧ s4171.2.2.length = x4037.length ∧ Mem (idsOf [sg4041, sg4042]) w w' [sg4181, sg4182] ∧ Sat Try.f25.ntmps [(0, .slice p4039 s4171.2.2.length c4040), (1, .int .i64 s4171.1), (5, .int .i64 s4171.2.1)] a) hw4179 (fun a ha => ⟨sg4041, sg4042, ho4043, rfl, M0.pick [0, 1] (by kernel_rfl), ha.sub (by kernel_rfl)⟩) ?_
    clear hm
    intro s4171 x4172 hm hout4173 a4174 w4175 ⟨sg4181, sg4182, ho4183, hl4184, M4176, hS4177⟩
    refine G_use hS4177 ?_
    refine G_seq ?_
    refine G_seq ?_
    refine G_region ?_
    refine W_run 4 [(0, .slice p4039 s4171.2.2.length c4040), (1, .int .i64 s4171.1), (5, .int .i64 s4171.2.1), (9, .bool (decide (s4171.2.1 < (s4171.2.2.length : Int))))] w4175 (by kernel_rfl) ?_
    refine W_nil ?_
    refine N_then ?_
    rcases gx_bif hm with ⟨hc4190, hm⟩ | ⟨hc4190, hm⟩
    · refine G_cond_t (b := (decide (s4171.2.1 < (s4171.2.2.length : Int)))) hc4190 (by kernel_rfl) ?_
      refine G_skip ?_
      refine N_then ?_
      refine G_seq ?_
      refine G_block ?_
      refine G_seq ?_
      refine G_region ?_
      refine W_run 3 [(0, .slice p4039 s4171.2.2.length c4040), (1, .int .i64 s4171.1), (5, .int .i64 s4171.2.1), (12, .slice p4039 s4171.2.2.length c4040), (13, .int .i64 s4171.2.1), (14, .int .i64 s4171.1)] w4175 (by kernel_rfl) ?_
      obtain ⟨y4191, hy4191, hm⟩ := gx_bind hm
      obtain ⟨zs4192, hz4193, hr4194, hi4195⟩ := id ho4183
      obtain ⟨g4196, hg4197⟩ := gxIdx_fst hz4193 hy4191
      refine W_val (elemP p4039 (s4171.2.1.toNat * 3)) w4175 (by kernel_rfl) (E_index (E := deepBalloon.E) _ _ _ s4171.2.2.length c4040 .i64 s4171.2.1 3 (y := (y4191, g4196)) rfl (by kernel_rfl) (by kernel_rfl) (by kernel_rfl) (hr4194.rd M4176 0 (by kernel_rfl)) (len_fst hz4193) hg4197) ?_
      refine W_val (elemP p4039 (s4171.2.1.toNat * 3 + 0)) w4175 (by kernel_rfl) (E_fieldE (E := deepBalloon.E) _ _ 0 (s4171.2.1.toNat * 3) 0 rfl (by kernel_rfl) (by kernel_rfl) (hr4194.rd M4176 0 (by kernel_rfl)) hg4197) ?_
      refine W_storeE (E := deepBalloon.E) _ _ _ false 1 s4171.2.1.toNat 0 (s4171.2.1.toNat * 3 + 0) (y4191, g4196) ((⟨s4171.1, y4191.Goal, y4191.Gave⟩ : Balloon), g4196) (.int .i64 s4171.1) 0 M4176 hr4194 (by kernel_rfl) (by kernel_rfl) rfl (by kernel_rfl) (by kernel_rfl) (by kernel_rfl) (by kernel_rfl) (by kernel_rfl) (by kernel_rfl) (by kernel_rfl) (gxIdx_spec hg4197).2 rfl ?_
      intro w4199 sg4201 ho4202 M4200
      have ho4203 : ownD deepBalloon (s4171.2.2.set s4171.2.1.toNat (⟨s4171.1, y4191.Goal, y4191.Gave⟩ : Balloon)) p4039 c4040 sg4201 sg4182 := ⟨_, set_fst hz4193 s4171.2.1.toNat ((⟨s4171.1, y4191.Goal, y4191.Gave⟩ : Balloon), g4196), ho4202, (by rw [flatMap_setSame (gxIdx_spec hg4197).2 (by kernel_rfl)]; exact hi4195)⟩
      refine W_conv 0 (.slice p4039 s4171.2.2.length c4040) (.slice p4039 (s4171.2.2.set s4171.2.1.toNat (⟨s4171.1, y4191.Goal, y4191.Gave⟩ : Balloon)).length c4040) (by kernel_rfl) (by rw [@List.length_set _ s4171.2.2 s4171.2.1.toNat (⟨s4171.1, y4191.Goal, y4191.Gave⟩ : Balloon)]) ?_
      refine W_conv 12 (.slice p4039 s4171.2.2.length c4040) (.slice p4039 (s4171.2.2.set s4171.2.1.toNat (⟨s4171.1, y4191.Goal, y4191.Gave⟩ : Balloon)).length c4040) (by kernel_rfl) (by rw [@List.length_set _ s4171.2.2 s4171.2.1.toNat (⟨s4171.1, y4191.Goal, y4191.Gave⟩ : Balloon)]) ?_
      refine W_nil ?_
      refine N_then ?_
      refine G_seq ?_
      refine G_region ?_
      refine W_run 3 [(0, .slice p4039 (s4171.2.2.set s4171.2.1.toNat (⟨s4171.1, y4191.Goal, y4191.Gave⟩ : Balloon)).length c4040), (1, .int .i64 (w64 (s4171.1 + 1))), (5, .int .i64 s4171.2.1)] w4199 (by kernel_rfl) ?_
      refine W_nil ?_
      refine N_then ?_
      refine G_seq ?_
      refine G_region ?_
      refine W_run 3 [(0, .slice p4039 (s4171.2.2.set s4171.2.1.toNat (⟨s4171.1, y4191.Goal, y4191.Gave⟩ : Balloon)).length c4040), (1, .int .i64 (w64 (s4171.1 + 1))), (5, .int .i64 s4171.2.1), (19, .slice p4039 (s4171.2.2.set s4171.2.1.toNat (⟨s4171.1, y4191.Goal, y4191.Gave⟩ : Balloon)).length c4040), (20, .int .i64 s4171.2.1), (21, .int .i64 (w64 (s4171.1 + 1)))] w4199 (by kernel_rfl) ?_
      obtain ⟨y4204, hy4204, hm⟩ := gx_bind hm
      obtain ⟨zs4205, hz4206, hr4207, hi4208⟩ := id ho4203
      obtain ⟨g4209, hg4210⟩ := gxIdx_fst hz4206 hy4204
      refine W_val (elemP p4039 (s4171.2.1.toNat * 3)) w4199 (by kernel_rfl) (E_index (E := deepBalloon.E) _ _ _ (s4171.2.2.set s4171.2.1.toNat (⟨s4171.1, y4191.Goal, y4191.Gave⟩ : Balloon)).length c4040 .i64 s4171.2.1 3 (y := (y4204, g4209)) rfl (by kernel_rfl) (by kernel_rfl) (by kernel_rfl) (hr4207.rd M4200 0 (by kernel_rfl)) (len_fst hz4206) hg4210) ?_
      refine W_val (elemP p4039 (s4171.2.1.toNat * 3 + 1)) w4199 (by kernel_rfl) (E_fieldE (E := deepBalloon.E) _ _ 1 (s4171.2.1.toNat * 3) 1 rfl (by kernel_rfl) (by kernel_rfl) (hr4207.rd M4200 0 (by kernel_rfl)) hg4210) ?_
      refine W_storeE (E := deepBalloon.E) _ _ _ false 1 s4171.2.1.toNat 1 (s4171.2.1.toNat * 3 + 1) (y4204, g4209) ((⟨y4204.Guest, w64 (s4171.1 + 1), y4204.Gave⟩ : Balloon), g4209) (.int .i64 (w64 (s4171.1 + 1))) 0 M4200 hr4207 (by kernel_rfl) (by kernel_rfl) rfl (by kernel_rfl) (by kernel_rfl) (by kernel_rfl) (by kernel_rfl) (by kernel_rfl) (by kernel_rfl) (by kernel_rfl) (gxIdx_spec hg4210).2 rfl ?_
      intro w4212 sg4214 ho4215 M4213
      have ho4216 : ownD deepBalloon ((s4171.2.2.set s4171.2.1.toNat (⟨s4171.1, y4191.Goal, y4191.Gave⟩ : Balloon)).set s4171.2.1.toNat (⟨y4204.Guest, w64 (s4171.1 + 1), y4204.Gave⟩ : Balloon)) p4039 c4040 sg4214 sg4182 := ⟨_, set_fst hz4206 s4171.2.1.toNat ((⟨y4204.Guest, w64 (s4171.1 + 1), y4204.Gave⟩ : Balloon), g4209), ho4215, (by rw [flatMap_setSame (gxIdx_spec hg4210).2 (by kernel_rfl)]; exact hi4208)⟩
      refine W_conv 0 (.slice p4039 (s4171.2.2.set s4171.2.1.toNat (⟨s4171.1, y4191.Goal, y4191.Gave⟩ : Balloon)).length c4040) (.slice p4039 ((s4171.2.2.set s4171.2.1.toNat (⟨s4171.1, y4191.Goal, y4191.Gave⟩ : Balloon)).set s4171.2.1.toNat (⟨y4204.Guest, w64 (s4171.1 + 1), y4204.Gave⟩ : Balloon)).length c4040) (by kernel_rfl) (by rw [@List.length_set _ (s4171.2.2.set s4171.2.1.toNat (⟨s4171.1, y4191.Goal, y4191.Gave⟩ : Balloon)) s4171.2.1.toNat (⟨y4204.Guest, w64 (s4171.1 + 1), y4204.Gave⟩ : Balloon)]) ?_
      refine W_conv 19 (.slice p4039 (s4171.2.2.set s4171.2.1.toNat (⟨s4171.1, y4191.Goal, y4191.Gave⟩ : Balloon)).length c4040) (.slice p4039 ((s4171.2.2.set s4171.2.1.toNat (⟨s4171.1, y4191.Goal, y4191.Gave⟩ : Balloon)).set s4171.2.1.toNat (⟨y4204.Guest, w64 (s4171.1 + 1), y4204.Gave⟩ : Balloon)).length c4040) (by kernel_rfl) (by rw [@List.length_set _ (s4171.2.2.set s4171.2.1.toNat (⟨s4171.1, y4191.Goal, y4191.Gave⟩ : Balloon)) s4171.2.1.toNat (⟨y4204.Guest, w64 (s4171.1 + 1), y4204.Gave⟩ : Balloon)]) ?_
      refine W_nil ?_
      refine N_then ?_
      refine G_seq ?_
      refine G_region ?_
      refine W_run 3 [(0, .slice p4039 ((s4171.2.2.set s4171.2.1.toNat (⟨s4171.1, y4191.Goal, y4191.Gave⟩ : Balloon)).set s4171.2.1.toNat (⟨y4204.Guest, w64 (s4171.1 + 1), y4204.Gave⟩ : Balloon)).length c4040), (1, .int .i64 (w64 ((w64 (s4171.1 + 1)) + 1))), (5, .int .i64 s4171.2.1)] w4212 (by kernel_rfl) ?_
      refine W_nil ?_
      refine N_then ?_
      refine G_region ?_
      refine W_run 2 [(0, .slice p4039 ((s4171.2.2.set s4171.2.1.toNat (⟨s4171.1, y4191.Goal, y4191.Gave⟩ : Balloon)).set s4171.2.1.toNat (⟨y4204.Guest, w64 (s4171.1 + 1), y4204.Gave⟩ : Balloon)).length c4040), (1, .int .i64 (w64 ((w64 (s4171.1 + 1)) + 1))), (5, .int .i64 s4171.2.1), (26, .slice p4039 ((s4171.2.2.set s4171.2.1.toNat (⟨s4171.1, y4191.Goal, y4191.Gave⟩ : Balloon)).set s4171.2.1.toNat (⟨y4204.Guest, w64 (s4171.1 + 1), y4204.Gave⟩ : Balloon)).length c4040), (27, .int .i64 s4171.2.1)] w4212 (by kernel_rfl) ?_
      obtain ⟨y4217, hy4217, hm⟩ := gx_bind hm
      obtain ⟨zs4218, hz4219, hr4220, hi4221⟩ := id ho4216
      obtain ⟨g4222, hg4223⟩ := gxIdx_fst hz4219 hy4217
      refine W_val (elemP p4039 (s4171.2.1.toNat * 3)) w4212 (by kernel_rfl) (E_index (E := deepBalloon.E) _ _ _ ((s4171.2.2.set s4171.2.1.toNat (⟨s4171.1, y4191.Goal, y4191.Gave⟩ : Balloon)).set s4171.2.1.toNat (⟨y4204.Guest, w64 (s4171.1 + 1), y4204.Gave⟩ : Balloon)).length c4040 .i64 s4171.2.1 3 (y := (y4217, g4222)) rfl (by kernel_rfl) (by kernel_rfl) (by kernel_rfl) (hr4220.rd M4213 0 (by kernel_rfl)) (len_fst hz4219) hg4223) ?_
      refine W_val (elemP p4039 (s4171.2.1.toNat * 3 + 2)) w4212 (by kernel_rfl) (E_fieldE (E := deepBalloon.E) _ _ 2 (s4171.2.1.toNat * 3) 2 rfl (by kernel_rfl) (by kernel_rfl) (hr4220.rd M4213 0 (by kernel_rfl)) hg4223) ?_
      refine W_val (.slice ((g4222 0).1) y4217.Gave.length ((g4222 0).2)) w4212 (by kernel_rfl) (E_loadE (E := deepBalloon.E) _ _ false 1 s4171.2.1 2 (s4171.2.1.toNat * 3 + 2) (y4217, g4222) (.slice ((g4222 0).1) y4217.Gave.length ((g4222 0).2)) rfl (by kernel_rfl) (by kernel_rfl) (by kernel_rfl) (hr4220.rd M4213 0 (by kernel_rfl)) hg4223 rfl) ?_
      refine W_run 1 [(0, .slice p4039 ((s4171.2.2.set s4171.2.1.toNat (⟨s4171.1, y4191.Goal, y4191.Gave⟩ : Balloon)).set s4171.2.1.toNat (⟨y4204.Guest, w64 (s4171.1 + 1), y4204.Gave⟩ : Balloon)).length c4040), (1, .int .i64 (w64 ((w64 (s4171.1 + 1)) + 1))), (5, .int .i64 s4171.2.1), (30, .slice ((g4222 0).1) y4217.Gave.length ((g4222 0).2)), (31, .int .i64 (w64 ((w64 (s4171.1 + 1)) + 1)))] w4212 (by kernel_rfl) ?_
      obtain ⟨sa4226, sb4227, sc4228, hs4229, hb4230, hp4231⟩ := hi4221.lens (gxIdx_spec hg4223).2
      have M4232 := M4213.cut 1 (sa := sa4226) (sb := sb4227) (sc := sc4228) hs4229 (by kernel_rfl)
      obtain ⟨u4233, r4234, hu4235, ho4236, hr4237⟩ := hb4230
      have M4238 := M4232.cut 2 (sa := []) (sb := u4233) (sc := r4234) hu4235 (by kernel_rfl)
      obtain ⟨r4225, hr4225, hm⟩ := gx_bind hm
      refine W_call 24 #[.slice ((g4222 0).1) y4217.Gave.length ((g4222 0).2), .int .i64 (w64 ((w64 (s4171.1 + 1)) + 1))] (by kernel_rfl) (by kernel_rfl) ?_
      refine (c_l_markIntS w4212 y4217.Gave ((g4222 0).1) ((g4222 0).2) u4233 ho4236 (w64 ((w64 (s4171.1 + 1)) + 1)) (M4238.hasPick [4]) (M4238.nodupPick [4] (by kernel_rfl)) hr4225).mono ?_
      rintro e_ w4243 ⟨sg4240, rfl, ho4241, hl4242, K4244⟩
      have M4245 := M4238.callF' [4] [0, 1, 2, 3, 5] (by kernel_rfl) K4244
      refine ⟨_, rfl, ?_⟩
      refine W_conv 30 (.slice ((g4222 0).1) y4217.Gave.length ((g4222 0).2)) (.slice ((g4222 0).1) r4225.2.length ((g4222 0).2)) (by kernel_rfl) (by first | rw [hl4242] | rw [hl4242]) ?_
      have M4247 : Mem (idsOf [sg4041, sg4042]) w w4243 [sg4214, [], sa4226, sg4240, sc4228] := M4245.pick [0, 2, 1, 5, 3] (by kernel_rfl)
      have M4248 : Mem (idsOf [sg4041, sg4042]) w w4243 [sg4214, [], (sa4226 ++ ((sg4240 ++ []) ++ sc4228))] := M4247.regroup (by simp)
      have ho4249 : ownD deepBalloon (((s4171.2.2.set s4171.2.1.toNat (⟨s4171.1, y4191.Goal, y4191.Gave⟩ : Balloon)).set s4171.2.1.toNat (⟨y4204.Guest, w64 (s4171.1 + 1), y4204.Gave⟩ : Balloon)).set s4171.2.1.toNat (⟨y4217.Guest, y4217.Goal, r4225.2⟩ : Balloon)) p4039 c4040 sg4214 (sa4226 ++ ((sg4240 ++ []) ++ sc4228)) := ⟨_, set_fst hz4219 s4171.2.1.toNat ((⟨y4217.Guest, y4217.Goal, r4225.2⟩ : Balloon), g4222), (hr4220.setSame (z' := ((⟨y4217.Guest, y4217.Goal, r4225.2⟩ : Balloon), g4222)) (gxIdx_spec hg4223).2 (by show ([.int .i64 y4217.Guest, .int .i64 y4217.Goal, .slice ((g4222 0).1) r4225.2.length ((g4222 0).2)] : List Value) = [.int .i64 y4217.Guest, .int .i64 y4217.Goal, .slice ((g4222 0).1) y4217.Gave.length ((g4222 0).2)]; rw [hl4242])), hp4231 ((⟨y4217.Guest, y4217.Goal, r4225.2⟩ : Balloon), g4222) _ (ownI_cons (i := ⟨Int, encI, _, _, _⟩) ho4241 ownI_nil)⟩
      refine W_conv 0 (.slice p4039 ((s4171.2.2.set s4171.2.1.toNat (⟨s4171.1, y4191.Goal, y4191.Gave⟩ : Balloon)).set s4171.2.1.toNat (⟨y4204.Guest, w64 (s4171.1 + 1), y4204.Gave⟩ : Balloon)).length c4040) (.slice p4039 (((s4171.2.2.set s4171.2.1.toNat (⟨s4171.1, y4191.Goal, y4191.Gave⟩ : Balloon)).set s4171.2.1.toNat (⟨y4204.Guest, w64 (s4171.1 + 1), y4204.Gave⟩ : Balloon)).set s4171.2.1.toNat (⟨y4217.Guest, y4217.Goal, r4225.2⟩ : Balloon)).length c4040) (by kernel_rfl) (by rw [@List.length_set _ ((s4171.2.2.set s4171.2.1.toNat (⟨s4171.1, y4191.Goal, y4191.Gave⟩ : Balloon)).set s4171.2.1.toNat (⟨y4204.Guest, w64 (s4171.1 + 1), y4204.Gave⟩ : Balloon)) s4171.2.1.toNat (⟨y4217.Guest, y4217.Goal, r4225.2⟩ : Balloon)]) ?_
      refine W_run 1 [(0, .slice p4039 (((s4171.2.2.set s4171.2.1.toNat (⟨s4171.1, y4191.Goal, y4191.Gave⟩ : Balloon)).set s4171.2.1.toNat (⟨y4204.Guest, w64 (s4171.1 + 1), y4204.Gave⟩ : Balloon)).set s4171.2.1.toNat (⟨y4217.Guest, y4217.Goal, r4225.2⟩ : Balloon)).length c4040), (1, .int .i64 r4225.1), (5, .int .i64 s4171.2.1)] w4243 (by kernel_rfl) ?_
      refine W_nil ?_
      refine N_block ?_
      refine N_then ?_
      refine G_region ?_
      refine W_run 3 [(0, .slice p4039 (((s4171.2.2.set s4171.2.1.toNat (⟨s4171.1, y4191.Goal, y4191.Gave⟩ : Balloon)).set s4171.2.1.toNat (⟨y4204.Guest, w64 (s4171.1 + 1), y4204.Gave⟩ : Balloon)).set s4171.2.1.toNat (⟨y4217.Guest, y4217.Goal, r4225.2⟩ : Balloon)).length c4040), (1, .int .i64 r4225.1), (5, .int .i64 (w64 (s4171.2.1 + 1)))] w4243 (by kernel_rfl) ?_
      refine W_nil ?_
      obtain rfl := Option.some.inj hm
      exact N_loop fun a ha => ⟨_, rfl, sg4214, (sa4226 ++ ((sg4240 ++ []) ++ sc4228)), ho4249, (List.length_set.trans (List.length_set.trans (List.length_set.trans hl4184))), M4248.pick [0, 2] (by kernel_rfl), ha.sub (by kernel_rfl)⟩
    · refine G_cond_f (b := (decide (s4171.2.1 < (s4171.2.2.length : Int)))) hc4190 (by kernel_rfl) ?_
      refine G_exit ?_
      refine N_then_exit ?_
      refine N_then_exit ?_
      refine N_block_eq ?_
      obtain rfl := Option.some.inj hm
      obtain rfl := hout4173 _ rfl
      exact N_meet fun a ha => ⟨sg4181, sg4182, ho4183, hl4184, M4176.pick [0, 1] (by kernel_rfl), ha.sub (by kernel_rfl)⟩
  · intro a4250 w4251 ⟨sg4186, sg4187, ho4188, hl4189, M4252, hS4253⟩
    refine N_use hS4253 ?_
    have hm := hmo4180
    refine N_then ?_
    refine G_seq ?_
    refine G_region ?_
    refine W_run 2 [(4, .int .i64 out4178.1)] w4251 (by kernel_rfl) ?_
    refine W_nil ?_
    refine N_then ?_
    refine G_ret ?_
    obtain rfl := Option.some.inj hm
    refine N_ret [.int .i64 out4178.1] (RVs_cons (RV_tmp (by kernel_rfl)) RVs_nil) ?_
    exact ⟨sg4186, sg4187, rfl, ho4188, hl4189, M4252.pick [0, 1] (by kernel_rfl)⟩
theorem c_l_heldIntS (w : World) (x4315 : List Int) (p4317 : Option Addr) (c4318 : Nat) (h4319 : rdS encI w x4315 p4317 c4318) (x4320 : Int) {r : Int} (hm : M.l_heldIntS x4315 x4320 = some r) :
    Calls Try.prog 29 #[.slice p4317 x4315.length c4318, .int .i64 x4320] w fun e w' => e = .returned (.int .i64 r) ∧ Mem [] w w' [] := by
  unfold M.l_heldIntS at hm
  refine C_enter Try.func29 rfl (by kernel_rfl) ?_
  have M0 := Mem.refl [] w
  refine G_seq ?_
  refine G_region ?_
  refine W_run 1 [(0, .slice p4317 x4315.length c4318), (1, .int .i64 x4320)] w (by kernel_rfl) ?_
  refine W_nil ?_
  refine N_then ?_
  refine G_seq ?_
  refine G_seq ?_
  refine G_region ?_
  refine W_run 1 [(0, .slice p4317 x4315.length c4318), (1, .int .i64 x4320), (5, .int .i64 0)] w (by kernel_rfl) ?_
  refine W_nil ?_
  refine N_then ?_
  obtain ⟨out4334, hw4335, hmo4336⟩ := gx_bind hm
  refine G_meet (fun a w' => ∃ (o4337 : Int), out4334 = .inl o4337 ∧ Mem [] w w' [] ∧ Sat Try.f29.ntmps [(1, .int .i64 o4337)] a) ?_ ?_
  · refine G_block ?_
    refine G_while (σ := Int × Int) (ρ := (Int) ⊕ (Int)) (fun s4327 a w' => Mem [] w w' [] ∧ Sat Try.f29.ntmps [(0, .slice p4317 x4315.length c4318), (1, .int .i64 s4327.1), (5, .int .i64 s4327.2)] a) hw4335 (fun a ha => ⟨M0.pick [] (by kernel_rfl), ha.sub (by kernel_rfl)⟩) ?_
    clear hm
    intro s4327 x4328 hm hout4329 a4330 w4331 ⟨M4332, hS4333⟩
    refine G_use hS4333 ?_
    refine G_seq ?_
    refine G_seq ?_
    refine G_region ?_
    refine W_run 4 [(0, .slice p4317 x4315.length c4318), (1, .int .i64 s4327.1), (5, .int .i64 s4327.2), (9, .bool (decide (s4327.2 < (x4315.length : Int))))] w4331 (by kernel_rfl) ?_
    refine W_nil ?_
    refine N_then ?_
    rcases gx_bif hm with ⟨hc4338, hm⟩ | ⟨hc4338, hm⟩
    · refine G_cond_t (b := (decide (s4327.2 < (x4315.length : Int)))) hc4338 (by kernel_rfl) ?_
      refine G_skip ?_
      refine N_then ?_
      refine G_seq ?_
      refine G_block ?_
      refine G_seq ?_
      refine G_seq ?_
      refine G_region ?_
      refine W_run 2 [(0, .slice p4317 x4315.length c4318), (1, .int .i64 s4327.1), (5, .int .i64 s4327.2), (12, .slice p4317 x4315.length c4318), (13, .int .i64 s4327.2)] w4331 (by kernel_rfl) ?_
      obtain ⟨y4339, hy4339, hm⟩ := gx_bind hm
      refine W_val (elemP p4317 (s4327.2.toNat * 1)) w4331 (by kernel_rfl) (E_index (E := encI) _ _ _ x4315.length c4318 .i64 s4327.2 1 (y := y4339) rfl (by kernel_rfl) (by kernel_rfl) (by kernel_rfl) (h4319.mem0 M4332) rfl hy4339) ?_
      refine W_val (.int .i64 y4339) w4331 (by kernel_rfl) (E_loadE (E := encI) _ _ false 1 s4327.2 0 (s4327.2.toNat * 1) y4339 (.int .i64 y4339) rfl (by kernel_rfl) (by kernel_rfl) (by kernel_rfl) (h4319.mem0 M4332) hy4339 rfl) ?_
      refine W_run 2 [(0, .slice p4317 x4315.length c4318), (1, .int .i64 s4327.1), (5, .int .i64 s4327.2), (17, .bool (y4339 != s4327.1))] w4331 (by kernel_rfl) ?_
      refine W_nil ?_
      refine N_then ?_
      rcases gx_bif hm with ⟨hc4340, hm⟩ | ⟨hc4340, hm⟩
      · refine G_cond_t (b := (y4339 != s4327.1)) hc4340 (by kernel_rfl) ?_
        refine G_seq ?_
        refine G_region ?_
        refine W_run 1 [(4, .int .i64 (-1))] w4331 (by kernel_rfl) ?_
        refine W_nil ?_
        refine N_then ?_
        refine G_ret ?_
        refine N_then_ret ?_
        refine N_block_ret ?_
        refine N_then_ret ?_
        refine N_then_ret ?_
        obtain rfl := Option.some.inj hm
        obtain rfl := hout4329 _ rfl
        have hm := hmo4336; simp only [Sum.elim_inr] at hm
        refine N_block_ret ?_
        refine N_meet_ret ?_
        refine N_then_ret ?_
        obtain rfl := Option.some.inj hm
        refine N_ret [.int .i64 (-1)] (RVs_cons (RV_tmp (by kernel_rfl)) RVs_nil) ?_
        exact ⟨rfl, M4332.pick [] (by kernel_rfl)⟩
      · refine G_cond_f (b := (y4339 != s4327.1)) hc4340 (by kernel_rfl) ?_
        refine G_skip ?_
        refine N_then ?_
        refine G_region ?_
        refine W_run 3 [(0, .slice p4317 x4315.length c4318), (1, .int .i64 (w64 (s4327.1 + 1))), (5, .int .i64 s4327.2)] w4331 (by kernel_rfl) ?_
        refine W_nil ?_
        refine N_block ?_
        refine N_then ?_
        refine G_region ?_
        refine W_run 3 [(0, .slice p4317 x4315.length c4318), (1, .int .i64 (w64 (s4327.1 + 1))), (5, .int .i64 (w64 (s4327.2 + 1)))] w4331 (by kernel_rfl) ?_
        refine W_nil ?_
        obtain rfl := Option.some.inj hm
        exact N_loop fun a ha => ⟨_, rfl, M4332.pick [] (by kernel_rfl), ha.sub (by kernel_rfl)⟩
    · refine G_cond_f (b := (decide (s4327.2 < (x4315.length : Int)))) hc4338 (by kernel_rfl) ?_
      refine G_exit ?_
      refine N_then_exit ?_
      refine N_then_exit ?_
      refine N_block_eq ?_
      obtain rfl := Option.some.inj hm
      obtain rfl := hout4329 _ rfl
      exact N_meet fun a ha => ⟨_, rfl, M4332.pick [] (by kernel_rfl), ha.sub (by kernel_rfl)⟩
  · intro a4341 w4342 ⟨o4337, hout_, M4343, hS4344⟩
    refine N_use hS4344 ?_
    subst hout_
    have hm := hmo4336; simp only [Sum.elim_inl] at hm
    refine N_then ?_
    refine G_seq ?_
    refine G_region ?_
    refine W_run 2 [(4, .int .i64 o4337)] w4342 (by kernel_rfl) ?_
    refine W_nil ?_
    refine N_then ?_
    refine G_ret ?_
    obtain rfl := Option.some.inj hm
    refine N_ret [.int .i64 o4337] (RVs_cons (RV_tmp (by kernel_rfl)) RVs_nil) ?_
    exact ⟨rfl, M4343.pick [] (by kernel_rfl)⟩
theorem c_l_heldBalloonS (w : World) (x4290 : List Balloon) (p4292 : Option Addr) (c4293 : Nat) (h4294 : rdD deepBalloon w x4290 p4292 c4293) (x4295 : Int) {r : Int} (hm : M.l_heldBalloonS x4290 x4295 = some r) :
    Calls Try.prog 26 #[.slice p4292 x4290.length c4293, .int .i64 x4295] w fun e w' => e = .returned (.int .i64 r) ∧ Mem [] w w' [] := by
  unfold M.l_heldBalloonS at hm
  refine C_enter Try.func26 rfl (by kernel_rfl) ?_
  have M0 := Mem.refl [] w
  refine G_seq ?_
  refine G_region ?_
  refine W_run 1 [(0, .slice p4292 x4290.length c4293), (1, .int .i64 x4295)] w (by kernel_rfl) ?_
  refine W_nil ?_
  refine N_then ?_
  refine G_seq ?_
  refine G_seq ?_
  refine G_region ?_
  refine W_run 1 [(0, .slice p4292 x4290.length c4293), (1, .int .i64 x4295), (5, .int .i64 0)] w (by kernel_rfl) ?_
  refine W_nil ?_
  refine N_then ?_
  obtain ⟨out4381, hw4382, hmo4383⟩ := gx_bind hm
  refine G_meet (fun a w' => ∃ (o4384 : Int), out4381 = .inl o4384 ∧ Mem [] w w' [] ∧ Sat Try.f26.ntmps [(1, .int .i64 o4384)] a) ?_ ?_
  · refine G_block ?_
    refine G_while (σ := Int × Int) (ρ := (Int) ⊕ (Int)) (fun s4374 a w' => Mem [] w w' [] ∧ Sat Try.f26.ntmps [(0, .slice p4292 x4290.length c4293), (1, .int .i64 s4374.1), (5, .int .i64 s4374.2)] a) hw4382 (fun a ha => ⟨M0.pick [] (by kernel_rfl), ha.sub (by kernel_rfl)⟩) ?_
    clear hm
    intro s4374 x4375 hm hout4376 a4377 w4378 ⟨M4379, hS4380⟩
    refine G_use hS4380 ?_
    refine G_seq ?_
    refine G_seq ?_
    refine G_region ?_
    refine W_run 4 [(0, .slice p4292 x4290.length c4293), (1, .int .i64 s4374.1), (5, .int .i64 s4374.2), (9, .bool (decide (s4374.2 < (x4290.length : Int))))] w4378 (by kernel_rfl) ?_
    refine W_nil ?_
    refine N_then ?_
    rcases gx_bif hm with ⟨hc4385, hm⟩ | ⟨hc4385, hm⟩
    · refine G_cond_t (b := (decide (s4374.2 < (x4290.length : Int)))) hc4385 (by kernel_rfl) ?_
      refine G_skip ?_
      refine N_then ?_
      refine G_seq ?_
      refine G_block ?_
      refine G_seq ?_
      refine G_seq ?_
      refine G_region ?_
      refine W_run 2 [(0, .slice p4292 x4290.length c4293), (1, .int .i64 s4374.1), (5, .int .i64 s4374.2), (12, .slice p4292 x4290.length c4293), (13, .int .i64 s4374.2)] w4378 (by kernel_rfl) ?_
      obtain ⟨y4386, hy4386, hm⟩ := gx_bind hm
      obtain ⟨zs4387, hz4388, hr4389, hi4390⟩ := id h4294
      obtain ⟨g4391, hg4392⟩ := gxIdx_fst hz4388 hy4386
      refine W_val (elemP p4292 (s4374.2.toNat * 3)) w4378 (by kernel_rfl) (E_index (E := deepBalloon.E) _ _ _ x4290.length c4293 .i64 s4374.2 3 (y := (y4386, g4391)) rfl (by kernel_rfl) (by kernel_rfl) (by kernel_rfl) (hr4389.mem0 M4379) (len_fst hz4388) hg4392) ?_
      refine W_val (elemP p4292 (s4374.2.toNat * 3 + 0)) w4378 (by kernel_rfl) (E_fieldE (E := deepBalloon.E) _ _ 0 (s4374.2.toNat * 3) 0 rfl (by kernel_rfl) (by kernel_rfl) (hr4389.mem0 M4379) hg4392) ?_
      refine W_val (.int .i64 y4386.Guest) w4378 (by kernel_rfl) (E_loadE (E := deepBalloon.E) _ _ false 1 s4374.2 0 (s4374.2.toNat * 3 + 0) (y4386, g4391) (.int .i64 y4386.Guest) rfl (by kernel_rfl) (by kernel_rfl) (by kernel_rfl) (hr4389.mem0 M4379) hg4392 rfl) ?_
      refine W_run 2 [(0, .slice p4292 x4290.length c4293), (1, .int .i64 s4374.1), (5, .int .i64 s4374.2), (18, .bool (y4386.Guest != s4374.1))] w4378 (by kernel_rfl) ?_
      refine W_nil ?_
      refine N_then ?_
      rcases gx_bif hm with ⟨hc4394, hm⟩ | ⟨hc4394, hm⟩
      · refine G_cond_t (b := (y4386.Guest != s4374.1)) hc4394 (by kernel_rfl) ?_
        refine G_seq ?_
        refine G_region ?_
        refine W_run 1 [(4, .int .i64 (-1))] w4378 (by kernel_rfl) ?_
        refine W_nil ?_
        refine N_then ?_
        refine G_ret ?_
        refine N_then_ret ?_
        refine N_block_ret ?_
        refine N_then_ret ?_
        refine N_then_ret ?_
        obtain rfl := Option.some.inj hm
        obtain rfl := hout4376 _ rfl
        have hm := hmo4383; simp only [Sum.elim_inr] at hm
        refine N_block_ret ?_
        refine N_meet_ret ?_
        refine N_then_ret ?_
        obtain rfl := Option.some.inj hm
        refine N_ret [.int .i64 (-1)] (RVs_cons (RV_tmp (by kernel_rfl)) RVs_nil) ?_
        exact ⟨rfl, M4379.pick [] (by kernel_rfl)⟩
      · refine G_cond_f (b := (y4386.Guest != s4374.1)) hc4394 (by kernel_rfl) ?_
        refine G_skip ?_
        refine N_then ?_
        refine G_seq ?_
        refine G_region ?_
        refine W_run 3 [(0, .slice p4292 x4290.length c4293), (1, .int .i64 (w64 (s4374.1 + 1))), (5, .int .i64 s4374.2)] w4378 (by kernel_rfl) ?_
        refine W_nil ?_
        refine N_then ?_
        refine G_seq ?_
        refine G_seq ?_
        refine G_region ?_
        refine W_run 2 [(0, .slice p4292 x4290.length c4293), (1, .int .i64 (w64 (s4374.1 + 1))), (5, .int .i64 s4374.2), (21, .slice p4292 x4290.length c4293), (22, .int .i64 s4374.2)] w4378 (by kernel_rfl) ?_
        obtain ⟨y4395, hy4395, hm⟩ := gx_bind hm
        obtain ⟨g4396, hg4397⟩ := gxIdx_fst hz4388 hy4395
        refine W_val (elemP p4292 (s4374.2.toNat * 3)) w4378 (by kernel_rfl) (E_index (E := deepBalloon.E) _ _ _ x4290.length c4293 .i64 s4374.2 3 (y := (y4395, g4396)) rfl (by kernel_rfl) (by kernel_rfl) (by kernel_rfl) (hr4389.mem0 M4379) (len_fst hz4388) hg4397) ?_
        refine W_val (elemP p4292 (s4374.2.toNat * 3 + 1)) w4378 (by kernel_rfl) (E_fieldE (E := deepBalloon.E) _ _ 1 (s4374.2.toNat * 3) 1 rfl (by kernel_rfl) (by kernel_rfl) (hr4389.mem0 M4379) hg4397) ?_
        refine W_val (.int .i64 y4395.Goal) w4378 (by kernel_rfl) (E_loadE (E := deepBalloon.E) _ _ false 1 s4374.2 1 (s4374.2.toNat * 3 + 1) (y4395, g4396) (.int .i64 y4395.Goal) rfl (by kernel_rfl) (by kernel_rfl) (by kernel_rfl) (hr4389.mem0 M4379) hg4397 rfl) ?_
        refine W_run 2 [(0, .slice p4292 x4290.length c4293), (1, .int .i64 (w64 (s4374.1 + 1))), (5, .int .i64 s4374.2), (27, .bool (y4395.Goal != (w64 (s4374.1 + 1))))] w4378 (by kernel_rfl) ?_
        refine W_nil ?_
        refine N_then ?_
        rcases gx_bif hm with ⟨hc4399, hm⟩ | ⟨hc4399, hm⟩
        · refine G_cond_t (b := (y4395.Goal != (w64 (s4374.1 + 1)))) hc4399 (by kernel_rfl) ?_
          refine G_seq ?_
          refine G_region ?_
          refine W_run 1 [(4, .int .i64 (-1))] w4378 (by kernel_rfl) ?_
          refine W_nil ?_
          refine N_then ?_
          refine G_ret ?_
          refine N_then_ret ?_
          refine N_block_ret ?_
          refine N_then_ret ?_
          refine N_then_ret ?_
          obtain rfl := Option.some.inj hm
          obtain rfl := hout4376 _ rfl
          have hm := hmo4383; simp only [Sum.elim_inr] at hm
          refine N_block_ret ?_
          refine N_meet_ret ?_
          refine N_then_ret ?_
          obtain rfl := Option.some.inj hm
          refine N_ret [.int .i64 (-1)] (RVs_cons (RV_tmp (by kernel_rfl)) RVs_nil) ?_
          exact ⟨rfl, M4379.pick [] (by kernel_rfl)⟩
        · refine G_cond_f (b := (y4395.Goal != (w64 (s4374.1 + 1)))) hc4399 (by kernel_rfl) ?_
          refine G_skip ?_
          refine N_then ?_
          refine G_seq ?_
          refine G_region ?_
          refine W_run 3 [(0, .slice p4292 x4290.length c4293), (1, .int .i64 (w64 ((w64 (s4374.1 + 1)) + 1))), (5, .int .i64 s4374.2)] w4378 (by kernel_rfl) ?_
          refine W_nil ?_
          refine N_then ?_
          refine G_seq ?_
          refine G_region ?_
          refine W_run 2 [(0, .slice p4292 x4290.length c4293), (1, .int .i64 (w64 ((w64 (s4374.1 + 1)) + 1))), (5, .int .i64 s4374.2), (30, .slice p4292 x4290.length c4293), (31, .int .i64 s4374.2)] w4378 (by kernel_rfl) ?_
          obtain ⟨y4400, hy4400, hm⟩ := gx_bind hm
          obtain ⟨g4401, hg4402⟩ := gxIdx_fst hz4388 hy4400
          refine W_val (elemP p4292 (s4374.2.toNat * 3)) w4378 (by kernel_rfl) (E_index (E := deepBalloon.E) _ _ _ x4290.length c4293 .i64 s4374.2 3 (y := (y4400, g4401)) rfl (by kernel_rfl) (by kernel_rfl) (by kernel_rfl) (hr4389.mem0 M4379) (len_fst hz4388) hg4402) ?_
          refine W_val (elemP p4292 (s4374.2.toNat * 3 + 2)) w4378 (by kernel_rfl) (E_fieldE (E := deepBalloon.E) _ _ 2 (s4374.2.toNat * 3) 2 rfl (by kernel_rfl) (by kernel_rfl) (hr4389.mem0 M4379) hg4402) ?_
          refine W_val (.slice ((g4401 0).1) y4400.Gave.length ((g4401 0).2)) w4378 (by kernel_rfl) (E_loadE (E := deepBalloon.E) _ _ false 1 s4374.2 2 (s4374.2.toNat * 3 + 2) (y4400, g4401) (.slice ((g4401 0).1) y4400.Gave.length ((g4401 0).2)) rfl (by kernel_rfl) (by kernel_rfl) (by kernel_rfl) (hr4389.mem0 M4379) hg4402 rfl) ?_
          refine W_run 1 [(0, .slice p4292 x4290.length c4293), (1, .int .i64 (w64 ((w64 (s4374.1 + 1)) + 1))), (5, .int .i64 s4374.2), (34, .slice ((g4401 0).1) y4400.Gave.length ((g4401 0).2)), (35, .int .i64 (w64 ((w64 (s4374.1 + 1)) + 1)))] w4378 (by kernel_rfl) ?_
          obtain ⟨r4404, hr4404, hm⟩ := gx_bind hm
          refine W_call 29 #[.slice ((g4401 0).1) y4400.Gave.length ((g4401 0).2), .int .i64 (w64 ((w64 (s4374.1 + 1)) + 1))] (by kernel_rfl) (by kernel_rfl) ?_
          refine (c_l_heldIntS w4378 y4400.Gave ((g4401 0).1) ((g4401 0).2) ((hi4390.mem0 M4379).at_ hg4402 0 ⟨Int, encI, y4400.Gave, (g4401 0).1, (g4401 0).2⟩ (by kernel_rfl)) (w64 ((w64 (s4374.1 + 1)) + 1)) hr4404).mono ?_
          rintro e_ w4405 ⟨rfl, K4406⟩
          have M4407 := M4379.call0 K4406
          refine ⟨_, rfl, ?_⟩
          refine W_run 1 [(0, .slice p4292 x4290.length c4293), (1, .int .i64 r4404), (5, .int .i64 s4374.2)] w4405 (by kernel_rfl) ?_
          refine W_nil ?_
          refine N_then ?_
          refine G_seq ?_
          refine G_region ?_
          refine W_run 2 [(0, .slice p4292 x4290.length c4293), (1, .int .i64 r4404), (5, .int .i64 s4374.2), (38, .bool (decide (r4404 < 0)))] w4405 (by kernel_rfl) ?_
          refine W_nil ?_
          refine N_then ?_
          rcases gx_bif hm with ⟨hc4408, hm⟩ | ⟨hc4408, hm⟩
          · refine G_cond_t (b := (decide (r4404 < 0))) hc4408 (by kernel_rfl) ?_
            refine G_seq ?_
            refine G_region ?_
            refine W_run 1 [(4, .int .i64 (-1))] w4405 (by kernel_rfl) ?_
            refine W_nil ?_
            refine N_then ?_
            refine G_ret ?_
            refine N_block_ret ?_
            refine N_then_ret ?_
            refine N_then_ret ?_
            obtain rfl := Option.some.inj hm
            obtain rfl := hout4376 _ rfl
            have hm := hmo4383; simp only [Sum.elim_inr] at hm
            refine N_block_ret ?_
            refine N_meet_ret ?_
            refine N_then_ret ?_
            obtain rfl := Option.some.inj hm
            refine N_ret [.int .i64 (-1)] (RVs_cons (RV_tmp (by kernel_rfl)) RVs_nil) ?_
            exact ⟨rfl, M4407.pick [] (by kernel_rfl)⟩
          · refine G_cond_f (b := (decide (r4404 < 0))) hc4408 (by kernel_rfl) ?_
            refine G_skip ?_
            refine N_block ?_
            refine N_then ?_
            refine G_region ?_
            refine W_run 3 [(0, .slice p4292 x4290.length c4293), (1, .int .i64 r4404), (5, .int .i64 (w64 (s4374.2 + 1)))] w4405 (by kernel_rfl) ?_
            refine W_nil ?_
            obtain rfl := Option.some.inj hm
            exact N_loop fun a ha => ⟨_, rfl, M4407.pick [] (by kernel_rfl), ha.sub (by kernel_rfl)⟩
    · refine G_cond_f (b := (decide (s4374.2 < (x4290.length : Int)))) hc4385 (by kernel_rfl) ?_
      refine G_exit ?_
      refine N_then_exit ?_
      refine N_then_exit ?_
      refine N_block_eq ?_
      obtain rfl := Option.some.inj hm
      obtain rfl := hout4376 _ rfl
      exact N_meet fun a ha => ⟨_, rfl, M4379.pick [] (by kernel_rfl), ha.sub (by kernel_rfl)⟩
  · intro a4409 w4410 ⟨o4384, hout_, M4411, hS4412⟩
    refine N_use hS4412 ?_
    subst hout_
    have hm := hmo4383; simp only [Sum.elim_inl] at hm
    refine N_then ?_
    refine G_seq ?_
    refine G_region ?_
    refine W_run 2 [(4, .int .i64 o4384)] w4410 (by kernel_rfl) ?_
    refine W_nil ?_
    refine N_then ?_
    refine G_ret ?_
    obtain rfl := Option.some.inj hm
    refine N_ret [.int .i64 o4384] (RVs_cons (RV_tmp (by kernel_rfl)) RVs_nil) ?_
    exact ⟨rfl, M4411.pick [] (by kernel_rfl)⟩
theorem c_l_FnExactSetGoal (w : World) (x2715 : List Int) (p2717 : Option Addr) (c2718 : Nat) (h2719 : rdS encI w x2715 p2717 c2718) (x2720 : List Balloon) (p2722 : Option Addr) (c2723 : Nat) (h2724 : rdD deepBalloon w x2720 p2722 c2723) (x2725 : Int) (x2726 : Int) {r : Bool} (hm : M.l_FnExactSetGoal x2715 x2720 x2725 x2726 = some r) :
    Calls Try.prog 5 #[.slice p2717 x2715.length c2718, .slice p2722 x2720.length c2723, .int .i64 x2725, .int .i64 x2726] w fun e w' => e = .returned (.bool r) ∧ Mem [] w w' [] := by
  unfold M.l_FnExactSetGoal at hm
  refine C_enter Try.func5 rfl (by kernel_rfl) ?_
  have M0 := Mem.refl [] w
  refine G_seq ?_
  refine G_region ?_
  refine W_run 1 [(0, .slice p2717 x2715.length c2718), (1, .slice p2722 x2720.length c2723), (2, .int .i64 x2725), (3, .int .i64 x2726)] w (by kernel_rfl) ?_
  refine W_nil ?_
  refine N_then ?_
  refine G_seq ?_
  refine G_seq ?_
  refine G_region ?_
  refine W_run 3 [(0, .slice p2717 x2715.length c2718), (1, .slice p2722 x2720.length c2723), (2, .int .i64 x2725), (3, .int .i64 x2726), (23, .bool (decide ((x2715.length : Int) > 1048576)))] w (by kernel_rfl) ?_
  refine W_nil ?_
  refine N_then ?_
  rcases gx_bif hm with ⟨hc2727, hm⟩ | ⟨hc2727, hm⟩
  · refine G_cond_t (b := (decide ((x2715.length : Int) > 1048576))) hc2727 (by kernel_rfl) ?_
    refine G_seq ?_
    refine G_region ?_
    refine W_run 1 [(8, .bool true)] w (by kernel_rfl) ?_
    refine W_nil ?_
    refine N_then ?_
    refine G_ret ?_
    refine N_then_ret ?_
    obtain rfl := Option.some.inj hm
    refine N_ret [.bool true] (RVs_cons (RV_tmp (by kernel_rfl)) RVs_nil) ?_
    exact ⟨rfl, M0.pick [] (by kernel_rfl)⟩
  · refine G_cond_f (b := (decide ((x2715.length : Int) > 1048576))) hc2727 (by kernel_rfl) ?_
    refine G_skip ?_
    refine N_then ?_
    refine G_seq ?_
    refine G_region ?_
    refine W_run 1 [(0, .slice p2717 x2715.length c2718), (1, .slice p2722 x2720.length c2723), (2, .int .i64 x2725), (3, .int .i64 x2726), (9, .int .i64 1048576)] w (by kernel_rfl) ?_
    refine W_nil ?_
    refine N_then ?_
    refine G_seq ?_
    refine G_region ?_
    refine W_run 2 [(0, .slice p2717 x2715.length c2718), (1, .slice p2722 x2720.length c2723), (2, .int .i64 x2725), (3, .int .i64 x2726), (9, .int .i64 1048576), (24, .slice p2722 x2720.length c2723), (25, .int .i64 1048576)] w (by kernel_rfl) ?_
    obtain ⟨r2728, hr2728, hm⟩ := gx_bind hm
    refine W_call 13 #[.slice p2722 x2720.length c2723, .int .i64 1048576] (by kernel_rfl) (by kernel_rfl) ?_
    refine (c_l_szBalloonS w x2720 p2722 c2723 (h2724.mem0 M0) 1048576 hr2728).mono ?_
    rintro e_ w2729 ⟨rfl, K2730⟩
    have M2731 := M0.call0 K2730
    refine ⟨_, rfl, ?_⟩
    refine W_run 1 [(0, .slice p2717 x2715.length c2718), (1, .slice p2722 x2720.length c2723), (2, .int .i64 x2725), (3, .int .i64 x2726), (9, .int .i64 r2728)] w2729 (by kernel_rfl) ?_
    refine W_nil ?_
    refine N_then ?_
    refine G_seq ?_
    refine G_seq ?_
    refine G_region ?_
    refine W_run 2 [(0, .slice p2717 x2715.length c2718), (1, .slice p2722 x2720.length c2723), (2, .int .i64 x2725), (3, .int .i64 x2726), (28, .bool (decide (r2728 < 0)))] w2729 (by kernel_rfl) ?_
    refine W_nil ?_
    refine N_then ?_
    rcases gx_bif hm with ⟨hc2732, hm⟩ | ⟨hc2732, hm⟩
    · refine G_cond_t (b := (decide (r2728 < 0))) hc2732 (by kernel_rfl) ?_
      refine G_seq ?_
      refine G_region ?_
      refine W_run 1 [(8, .bool true)] w2729 (by kernel_rfl) ?_
      refine W_nil ?_
      refine N_then ?_
      refine G_ret ?_
      refine N_then_ret ?_
      obtain rfl := Option.some.inj hm
      refine N_ret [.bool true] (RVs_cons (RV_tmp (by kernel_rfl)) RVs_nil) ?_
      exact ⟨rfl, M2731.pick [] (by kernel_rfl)⟩
    · refine G_cond_f (b := (decide (r2728 < 0))) hc2732 (by kernel_rfl) ?_
      refine G_skip ?_
      refine N_then ?_
      refine G_seq ?_
      refine G_region ?_
      refine W_run 1 [(0, .slice p2717 x2715.length c2718), (1, .slice p2722 x2720.length c2723), (2, .int .i64 x2725), (3, .int .i64 x2726), (30, .slice p2717 x2715.length c2718)] w2729 (by kernel_rfl) ?_
      obtain ⟨r2733, hr2733, hm⟩ := gx_bind hm
      refine W_call 15 #[.slice p2717 x2715.length c2718] (by kernel_rfl) (by kernel_rfl) ?_
      refine (c_l_toIntS w2729 x2715 p2717 c2718 (h2719.mem0 M2731) hr2733).mono ?_
      rintro e_ w2739 ⟨p2735, c2736, sg2737, rfl, ho2738, K2740⟩
      have M2741 := M2731.call K2740
      refine ⟨_, rfl, ?_⟩
      refine W_run 1 [(0, .slice p2717 x2715.length c2718), (1, .slice p2722 x2720.length c2723), (2, .int .i64 x2725), (3, .int .i64 x2726), (31, .slice p2735 r2733.length c2736), (32, .slice p2722 x2720.length c2723)] w2739 (by kernel_rfl) ?_
      obtain ⟨r2742, hr2742, hm⟩ := gx_bind hm
      refine W_call 16 #[.slice p2722 x2720.length c2723] (by kernel_rfl) (by kernel_rfl) ?_
      refine (c_l_toBalloonS w2739 x2720 p2722 c2723 (h2724.mem0 M2741) hr2742).mono ?_
      rintro e_ w2749 ⟨p2744, c2745, sg2746, sg2747, rfl, ho2748, K2750⟩
      have M2751 := M2741.call K2750
      refine ⟨_, rfl, ?_⟩
      refine W_run 2 [(0, .slice p2717 x2715.length c2718), (1, .slice p2722 x2720.length c2723), (2, .int .i64 x2725), (3, .int .i64 x2726), (31, .slice p2735 r2733.length c2736), (33, .slice p2744 r2742.length c2745), (34, .int .i64 x2725), (35, .int .i64 x2726)] w2749 (by kernel_rfl) ?_
      obtain ⟨r3481, hr3481, hm⟩ := gx_bind hm
      refine W_call 22 #[.slice p2735 r2733.length c2736, .slice p2744 r2742.length c2745, .int .i64 x2725, .int .i64 x2726] (by kernel_rfl) (by kernel_rfl) ?_
      refine (c_s_SetGoal w2749 r2733 p2735 c2736 (ho2738.rd M2751 0 (by kernel_rfl)) r2742 p2744 c2745 (ho2748.rd M2751 1 (by kernel_rfl) 2 (by kernel_rfl)) x2725 x2726 hr3481).mono ?_
      rintro e_ w3488 ⟨p3483, c3484, sg3485, sg3486, rfl, ho3487, K3489⟩
      have M3490 := M2751.call K3489
      refine ⟨_, rfl, ?_⟩
      refine W_run 5 [(0, .slice p2717 x2715.length c2718), (1, .slice p2722 x2720.length c2723), (2, .int .i64 x2725), (3, .int .i64 x2726), (10, .slice p3483 r3481.1.length c3484), (11, .bool r3481.2)] w3488 (by kernel_rfl) ?_
      refine W_nil ?_
      refine N_then ?_
      refine G_seq ?_
      refine G_region ?_
      refine W_run 1 [(0, .slice p2717 x2715.length c2718), (1, .slice p2722 x2720.length c2723), (2, .int .i64 x2725), (3, .int .i64 x2726), (10, .slice p3483 r3481.1.length c3484), (11, .bool r3481.2), (39, .slice p2717 x2715.length c2718)] w3488 (by kernel_rfl) ?_
      obtain ⟨r3491, hr3491, hm⟩ := gx_bind hm
      refine W_call 15 #[.slice p2717 x2715.length c2718] (by kernel_rfl) (by kernel_rfl) ?_
      refine (c_l_toIntS w3488 x2715 p2717 c2718 (h2719.mem0 M3490) hr3491).mono ?_
      rintro e_ w3497 ⟨p3493, c3494, sg3495, rfl, ho3496, K3498⟩
      have M3499 := M3490.call K3498
      refine ⟨_, rfl, ?_⟩
      refine W_run 1 [(0, .slice p2717 x2715.length c2718), (1, .slice p2722 x2720.length c2723), (2, .int .i64 x2725), (3, .int .i64 x2726), (10, .slice p3483 r3481.1.length c3484), (11, .bool r3481.2), (12, .slice p3493 r3491.length c3494)] w3497 (by kernel_rfl) ?_
      refine W_nil ?_
      refine N_then ?_
      refine G_seq ?_
      refine G_region ?_
      refine W_run 1 [(0, .slice p2717 x2715.length c2718), (1, .slice p2722 x2720.length c2723), (2, .int .i64 x2725), (3, .int .i64 x2726), (10, .slice p3483 r3481.1.length c3484), (11, .bool r3481.2), (12, .slice p3493 r3491.length c3494), (41, .slice p2722 x2720.length c2723)] w3497 (by kernel_rfl) ?_
      obtain ⟨r3500, hr3500, hm⟩ := gx_bind hm
      refine W_call 16 #[.slice p2722 x2720.length c2723] (by kernel_rfl) (by kernel_rfl) ?_
      refine (c_l_toBalloonS w3497 x2720 p2722 c2723 (h2724.mem0 M3499) hr3500).mono ?_
      rintro e_ w3507 ⟨p3502, c3503, sg3504, sg3505, rfl, ho3506, K3508⟩
      have M3509 := M3499.call K3508
      refine ⟨_, rfl, ?_⟩
      refine W_run 1 [(0, .slice p2717 x2715.length c2718), (1, .slice p2722 x2720.length c2723), (2, .int .i64 x2725), (3, .int .i64 x2726), (10, .slice p3483 r3481.1.length c3484), (11, .bool r3481.2), (12, .slice p3493 r3491.length c3494), (13, .slice p3502 r3500.length c3503)] w3507 (by kernel_rfl) ?_
      refine W_nil ?_
      refine N_then ?_
      refine G_seq ?_
      refine G_region ?_
      refine W_run 4 [(0, .slice p2717 x2715.length c2718), (1, .slice p2722 x2720.length c2723), (2, .int .i64 x2725), (3, .int .i64 x2726), (10, .slice p3483 r3481.1.length c3484), (11, .bool r3481.2), (12, .slice p3493 r3491.length c3494), (13, .slice p3502 r3500.length c3503), (44, .slice p3493 r3491.length c3494), (45, .slice p3502 r3500.length c3503), (46, .int .i64 x2725), (47, .int .i64 x2726)] w3507 (by kernel_rfl) ?_
      obtain ⟨r3923, hr3923, hm⟩ := gx_bind hm
      refine W_call 23 #[.slice p3493 r3491.length c3494, .slice p3502 r3500.length c3503, .int .i64 x2725, .int .i64 x2726] (by kernel_rfl) (by kernel_rfl) ?_
      refine (c_i_SetGoal w3507 r3491 p3493 c3494 (ho3496.rd M3509 5 (by kernel_rfl)) r3500 p3502 c3503 (ho3506.rd M3509 6 (by kernel_rfl) 7 (by kernel_rfl)) x2725 x2726 hr3923).mono ?_
      rintro e_ w3930 ⟨p3925, c3926, sg3927, sg3928, rfl, ho3929, K3931⟩
      have M3932 := M3509.call K3931
      refine ⟨_, rfl, ?_⟩
      refine W_run 5 [(0, .slice p2717 x2715.length c2718), (1, .slice p2722 x2720.length c2723), (2, .int .i64 x2725), (3, .int .i64 x2726), (10, .slice p3483 r3481.1.length c3484), (11, .bool r3481.2), (12, .slice p3493 r3491.length c3494), (13, .slice p3502 r3500.length c3503), (14, .slice p3925 r3923.1.length c3926), (15, .bool r3923.2)] w3930 (by kernel_rfl) ?_
      refine W_nil ?_
      refine N_then ?_
      refine G_seq ?_
      refine G_seq ?_
      obtain ⟨o3938, ho3939, hm3940⟩ := gx_bind hm
      refine G_meet (fun a w' => Mem [] w w' [sg3485, sg3486, sg3495, sg3504, sg3505, sg3927, sg3928] ∧ Sat Try.f5.ntmps [(0, .slice p2717 x2715.length c2718), (1, .slice p2722 x2720.length c2723), (2, .int .i64 x2725), (3, .int .i64 x2726), (10, .slice p3483 r3481.1.length c3484), (11, .bool r3481.2), (12, .slice p3493 r3491.length c3494), (13, .slice p3502 r3500.length c3503), (14, .slice p3925 r3923.1.length c3926), (15, .bool r3923.2), (59, .bool o3938)] a) ?_ ?_
      · have hm := ho3939
        refine G_region ?_
        refine W_run 2 [(0, .slice p2717 x2715.length c2718), (1, .slice p2722 x2720.length c2723), (2, .int .i64 x2725), (3, .int .i64 x2726), (10, .slice p3483 r3481.1.length c3484), (11, .bool r3481.2), (12, .slice p3493 r3491.length c3494), (13, .slice p3502 r3500.length c3503), (14, .slice p3925 r3923.1.length c3926), (15, .bool r3923.2), (51, .slice p3925 r3923.1.length c3926), (52, .slice p3483 r3481.1.length c3484)] w3930 (by kernel_rfl) ?_
        obtain ⟨r3941, hr3941, hm⟩ := gx_bind hm
        refine W_call 19 #[.slice p3925 r3923.1.length c3926, .slice p3483 r3481.1.length c3484] (by kernel_rfl) (by kernel_rfl) ?_
        refine (c_l_eqBalloonS w3930 r3923.1 p3925 c3926 (ho3929.rd M3932 8 (by kernel_rfl) 9 (by kernel_rfl)) r3481.1 p3483 c3484 (ho3487.rd M3932 3 (by kernel_rfl) 4 (by kernel_rfl)) hr3941).mono ?_
        rintro e_ w3942 ⟨rfl, K3943⟩
        have M3944 := M3932.call0 K3943
        refine ⟨_, rfl, ?_⟩
        refine W_run 2 [(0, .slice p2717 x2715.length c2718), (1, .slice p2722 x2720.length c2723), (2, .int .i64 x2725), (3, .int .i64 x2726), (10, .slice p3483 r3481.1.length c3484), (11, .bool r3481.2), (12, .slice p3493 r3491.length c3494), (13, .slice p3502 r3500.length c3503), (14, .slice p3925 r3923.1.length c3926), (15, .bool r3923.2), (55, .bool (!r3941))] w3942 (by kernel_rfl) ?_
        rcases gx_bif hm with ⟨hc3945, hm⟩ | ⟨hc3945, hm⟩
        · refine W_known 55 true (by kernel_rfl) hc3945 ?_
          refine W_run 4 [(0, .slice p2717 x2715.length c2718), (1, .slice p2722 x2720.length c2723), (2, .int .i64 x2725), (3, .int .i64 x2726), (10, .slice p3483 r3481.1.length c3484), (11, .bool r3481.2), (12, .slice p3493 r3491.length c3494), (13, .slice p3502 r3500.length c3503), (14, .slice p3925 r3923.1.length c3926), (15, .bool r3923.2), (59, .bool true)] w3942 (by kernel_rfl) ?_
          refine W_nil ?_
          obtain rfl := Option.some.inj hm
          exact N_meet fun a ha => ⟨M3944.pick [3, 4, 5, 6, 7, 8, 9] (by kernel_rfl), ha.sub (by kernel_rfl)⟩
        · refine W_known 55 false (by kernel_rfl) hc3945 ?_
          refine W_run 4 [(0, .slice p2717 x2715.length c2718), (1, .slice p2722 x2720.length c2723), (2, .int .i64 x2725), (3, .int .i64 x2726), (10, .slice p3483 r3481.1.length c3484), (11, .bool r3481.2), (12, .slice p3493 r3491.length c3494), (13, .slice p3502 r3500.length c3503), (14, .slice p3925 r3923.1.length c3926), (15, .bool r3923.2), (59, .bool (!(r3923.2 == r3481.2)))] w3942 (by kernel_rfl) ?_
          refine W_nil ?_
          obtain rfl := Option.some.inj hm
          exact N_meet fun a ha => ⟨M3944.pick [3, 4, 5, 6, 7, 8, 9] (by kernel_rfl), ha.sub (by kernel_rfl)⟩
      · intro a3948 w3946 ⟨M3947, hS3949⟩
        refine N_use hS3949 ?_
        have hm := hm3940
        refine N_then ?_
        rcases gx_bif hm with ⟨hc3950, hm⟩ | ⟨hc3950, hm⟩
        · refine G_cond_t (b := o3938) hc3950 (by kernel_rfl) ?_
          refine G_seq ?_
          refine G_region ?_
          refine W_run 1 [(8, .bool false)] w3946 (by kernel_rfl) ?_
          refine W_nil ?_
          refine N_then ?_
          refine G_ret ?_
          refine N_then_ret ?_
          obtain rfl := Option.some.inj hm
          refine N_ret [.bool false] (RVs_cons (RV_tmp (by kernel_rfl)) RVs_nil) ?_
          exact ⟨rfl, M3947.pick [] (by kernel_rfl)⟩
        · refine G_cond_f (b := o3938) hc3950 (by kernel_rfl) ?_
          refine G_skip ?_
          refine N_then ?_
          refine G_seq ?_
          refine G_seq ?_
          refine G_region ?_
          refine W_run 2 [(0, .slice p2717 x2715.length c2718), (1, .slice p2722 x2720.length c2723), (2, .int .i64 x2725), (3, .int .i64 x2726), (10, .slice p3483 r3481.1.length c3484), (11, .bool r3481.2), (12, .slice p3493 r3491.length c3494), (13, .slice p3502 r3500.length c3503), (14, .slice p3925 r3923.1.length c3926), (15, .bool r3923.2), (60, .slice p3493 r3491.length c3494), (61, .slice p2717 x2715.length c2718)] w3946 (by kernel_rfl) ?_
          obtain ⟨r3951, hr3951, hm⟩ := gx_bind hm
          refine W_call 15 #[.slice p2717 x2715.length c2718] (by kernel_rfl) (by kernel_rfl) ?_
          refine (c_l_toIntS w3946 x2715 p2717 c2718 (h2719.mem0 M3947) hr3951).mono ?_
          rintro e_ w3957 ⟨p3953, c3954, sg3955, rfl, ho3956, K3958⟩
          have M3959 := M3947.call K3958
          refine ⟨_, rfl, ?_⟩
          obtain ⟨r3960, hr3960, hm⟩ := gx_bind hm
          refine W_call 18 #[.slice p3493 r3491.length c3494, .slice p3953 r3951.length c3954] (by kernel_rfl) (by kernel_rfl) ?_
          refine (c_l_eqIntS w3957 r3491 p3493 c3494 (ho3496.rd M3959 2 (by kernel_rfl)) r3951 p3953 c3954 (ho3956.rd M3959 7 (by kernel_rfl)) hr3960).mono ?_
          rintro e_ w3961 ⟨rfl, K3962⟩
          have M3963 := M3959.call0 K3962
          refine ⟨_, rfl, ?_⟩
          refine W_run 1 [(0, .slice p2717 x2715.length c2718), (1, .slice p2722 x2720.length c2723), (2, .int .i64 x2725), (3, .int .i64 x2726), (10, .slice p3483 r3481.1.length c3484), (11, .bool r3481.2), (12, .slice p3493 r3491.length c3494), (13, .slice p3502 r3500.length c3503), (14, .slice p3925 r3923.1.length c3926), (15, .bool r3923.2), (64, .bool (!r3960))] w3961 (by kernel_rfl) ?_
          refine W_nil ?_
          refine N_then ?_
          rcases gx_bif hm with ⟨hc3964, hm⟩ | ⟨hc3964, hm⟩
          · refine G_cond_t (b := (!r3960)) hc3964 (by kernel_rfl) ?_
            refine G_seq ?_
            refine G_region ?_
            refine W_run 1 [(8, .bool false)] w3961 (by kernel_rfl) ?_
            refine W_nil ?_
            refine N_then ?_
            refine G_ret ?_
            refine N_then_ret ?_
            obtain rfl := Option.some.inj hm
            refine N_ret [.bool false] (RVs_cons (RV_tmp (by kernel_rfl)) RVs_nil) ?_
            exact ⟨rfl, M3963.pick [] (by kernel_rfl)⟩
          · refine G_cond_f (b := (!r3960)) hc3964 (by kernel_rfl) ?_
            refine G_skip ?_
            refine N_then ?_
            refine G_seq ?_
            refine G_seq ?_
            refine G_region ?_
            refine W_run 2 [(0, .slice p2717 x2715.length c2718), (1, .slice p2722 x2720.length c2723), (2, .int .i64 x2725), (3, .int .i64 x2726), (10, .slice p3483 r3481.1.length c3484), (11, .bool r3481.2), (12, .slice p3493 r3491.length c3494), (13, .slice p3502 r3500.length c3503), (14, .slice p3925 r3923.1.length c3926), (15, .bool r3923.2), (65, .slice p3502 r3500.length c3503), (66, .slice p2722 x2720.length c2723)] w3961 (by kernel_rfl) ?_
            obtain ⟨r3965, hr3965, hm⟩ := gx_bind hm
            refine W_call 16 #[.slice p2722 x2720.length c2723] (by kernel_rfl) (by kernel_rfl) ?_
            refine (c_l_toBalloonS w3961 x2720 p2722 c2723 (h2724.mem0 M3963) hr3965).mono ?_
            rintro e_ w3972 ⟨p3967, c3968, sg3969, sg3970, rfl, ho3971, K3973⟩
            have M3974 := M3963.call K3973
            refine ⟨_, rfl, ?_⟩
            obtain ⟨r3975, hr3975, hm⟩ := gx_bind hm
            refine W_call 19 #[.slice p3502 r3500.length c3503, .slice p3967 r3965.length c3968] (by kernel_rfl) (by kernel_rfl) ?_
            refine (c_l_eqBalloonS w3972 r3500 p3502 c3503 (ho3506.rd M3974 3 (by kernel_rfl) 4 (by kernel_rfl)) r3965 p3967 c3968 (ho3971.rd M3974 8 (by kernel_rfl) 9 (by kernel_rfl)) hr3975).mono ?_
            rintro e_ w3976 ⟨rfl, K3977⟩
            have M3978 := M3974.call0 K3977
            refine ⟨_, rfl, ?_⟩
            refine W_run 1 [(0, .slice p2717 x2715.length c2718), (1, .slice p2722 x2720.length c2723), (2, .int .i64 x2725), (3, .int .i64 x2726), (10, .slice p3483 r3481.1.length c3484), (11, .bool r3481.2), (12, .slice p3493 r3491.length c3494), (13, .slice p3502 r3500.length c3503), (14, .slice p3925 r3923.1.length c3926), (15, .bool r3923.2), (69, .bool (!r3975))] w3976 (by kernel_rfl) ?_
            refine W_nil ?_
            refine N_then ?_
            rcases gx_bif hm with ⟨hc3979, hm⟩ | ⟨hc3979, hm⟩
            · refine G_cond_t (b := (!r3975)) hc3979 (by kernel_rfl) ?_
              refine G_seq ?_
              refine G_region ?_
              refine W_run 1 [(8, .bool false)] w3976 (by kernel_rfl) ?_
              refine W_nil ?_
              refine N_then ?_
              refine G_ret ?_
              refine N_then_ret ?_
              obtain rfl := Option.some.inj hm
              refine N_ret [.bool false] (RVs_cons (RV_tmp (by kernel_rfl)) RVs_nil) ?_
              exact ⟨rfl, M3978.pick [] (by kernel_rfl)⟩
            · refine G_cond_f (b := (!r3975)) hc3979 (by kernel_rfl) ?_
              refine G_skip ?_
              refine N_then ?_
              refine G_seq ?_
              refine G_region ?_
              refine W_run 1 [(0, .slice p2717 x2715.length c2718), (1, .slice p2722 x2720.length c2723), (2, .int .i64 x2725), (3, .int .i64 x2726), (10, .slice p3483 r3481.1.length c3484), (11, .bool r3481.2), (12, .slice p3493 r3491.length c3494), (13, .slice p3502 r3500.length c3503), (14, .slice p3925 r3923.1.length c3926), (15, .bool r3923.2), (16, .int .i64 1)] w3976 (by kernel_rfl) ?_
              refine W_nil ?_
              refine N_then ?_
              refine G_seq ?_
              refine G_region ?_
              refine W_run 2 [(0, .slice p2717 x2715.length c2718), (1, .slice p2722 x2720.length c2723), (2, .int .i64 x2725), (3, .int .i64 x2726), (10, .slice p3483 r3481.1.length c3484), (11, .bool r3481.2), (13, .slice p3502 r3500.length c3503), (14, .slice p3925 r3923.1.length c3926), (15, .bool r3923.2), (16, .int .i64 1), (70, .slice p3493 r3491.length c3494), (71, .int .i64 1)] w3976 (by kernel_rfl) ?_
              obtain ⟨r4030, hr4030, hm⟩ := gx_bind hm
              refine W_call 24 #[.slice p3493 r3491.length c3494, .int .i64 1] (by kernel_rfl) (by kernel_rfl) ?_
              refine (c_l_markIntS w3976 r3491 p3493 c3494 sg3495 ho3496 1 (M3978.hasPick [2]) (M3978.nodupPick [2] (by kernel_rfl)) hr4030).mono ?_
              rintro e_ w4034 ⟨sg4031, rfl, ho4032, hl4033, K4035⟩
              have M4036 := M3978.callF' [2] [0, 1, 3, 4, 5, 6, 7, 8, 9] (by kernel_rfl) K4035
              refine ⟨_, rfl, ?_⟩
              refine W_conv 70 (.slice p3493 r3491.length c3494) (.slice p3493 r4030.2.length c3494) (by kernel_rfl) (by first | rw [hl4033] | rw [hl4033]) ?_
              refine W_run 1 [(0, .slice p2717 x2715.length c2718), (1, .slice p2722 x2720.length c2723), (2, .int .i64 x2725), (3, .int .i64 x2726), (10, .slice p3483 r3481.1.length c3484), (11, .bool r3481.2), (13, .slice p3502 r3500.length c3503), (14, .slice p3925 r3923.1.length c3926), (15, .bool r3923.2), (16, .int .i64 r4030.1)] w4034 (by kernel_rfl) ?_
              refine W_nil ?_
              refine N_then ?_
              refine G_seq ?_
              refine G_region ?_
              refine W_run 2 [(0, .slice p2717 x2715.length c2718), (1, .slice p2722 x2720.length c2723), (2, .int .i64 x2725), (3, .int .i64 x2726), (10, .slice p3483 r3481.1.length c3484), (11, .bool r3481.2), (14, .slice p3925 r3923.1.length c3926), (15, .bool r3923.2), (16, .int .i64 r4030.1), (73, .slice p3502 r3500.length c3503), (74, .int .i64 r4030.1)] w4034 (by kernel_rfl) ?_
              obtain ⟨r4254, hr4254, hm⟩ := gx_bind hm
              refine W_call 25 #[.slice p3502 r3500.length c3503, .int .i64 r4030.1] (by kernel_rfl) (by kernel_rfl) ?_
              refine (c_l_markBalloonS w4034 r3500 p3502 c3503 sg3504 sg3505 ho3506 r4030.1 (M4036.hasPick [2, 3]) (M4036.nodupPick [2, 3] (by kernel_rfl)) hr4254).mono ?_
              rintro e_ w4259 ⟨sg4255, sg4256, rfl, ho4257, hl4258, K4260⟩
              have M4261 := M4036.callF' [2, 3] [0, 1, 4, 5, 6, 7, 8, 9] (by kernel_rfl) K4260
              refine ⟨_, rfl, ?_⟩
              refine W_conv 73 (.slice p3502 r3500.length c3503) (.slice p3502 r4254.2.length c3503) (by kernel_rfl) (by first | rw [hl4258] | rw [hl4258]) ?_
              refine W_run 1 [(0, .slice p2717 x2715.length c2718), (1, .slice p2722 x2720.length c2723), (2, .int .i64 x2725), (3, .int .i64 x2726), (10, .slice p3483 r3481.1.length c3484), (11, .bool r3481.2), (14, .slice p3925 r3923.1.length c3926), (15, .bool r3923.2), (16, .int .i64 r4254.1)] w4259 (by kernel_rfl) ?_
              refine W_nil ?_
              refine N_then ?_
              refine G_seq ?_
              refine G_seq ?_
              obtain ⟨o4268, ho4269, hm4270⟩ := gx_bind hm
              refine G_meet (fun a w' => Mem [] w w' [sg3485, sg3486, sg3927, sg3928] ∧ Sat Try.f5.ntmps [(0, .slice p2717 x2715.length c2718), (1, .slice p2722 x2720.length c2723), (2, .int .i64 x2725), (3, .int .i64 x2726), (10, .slice p3483 r3481.1.length c3484), (11, .bool r3481.2), (14, .slice p3925 r3923.1.length c3926), (88, .bool o4268)] a) ?_ ?_
              · have hm := ho4269
                refine G_region ?_
                refine W_run 3 [(0, .slice p2717 x2715.length c2718), (1, .slice p2722 x2720.length c2723), (2, .int .i64 x2725), (3, .int .i64 x2726), (10, .slice p3483 r3481.1.length c3484), (11, .bool r3481.2), (14, .slice p3925 r3923.1.length c3926), (15, .bool r3923.2), (78, .bool (decide (r4254.1 < 0)))] w4259 (by kernel_rfl) ?_
                rcases gx_bif hm with ⟨hc4271, hm⟩ | ⟨hc4271, hm⟩
                · refine W_known 78 true (by kernel_rfl) hc4271 ?_
                  refine W_run 10 [(0, .slice p2717 x2715.length c2718), (1, .slice p2722 x2720.length c2723), (2, .int .i64 x2725), (3, .int .i64 x2726), (10, .slice p3483 r3481.1.length c3484), (11, .bool r3481.2), (14, .slice p3925 r3923.1.length c3926), (88, .bool true)] w4259 (by kernel_rfl) ?_
                  refine W_nil ?_
                  obtain rfl := Option.some.inj hm
                  exact N_meet fun a ha => ⟨M4261.pick [0, 1, 2, 3] (by kernel_rfl), ha.sub (by kernel_rfl)⟩
                · refine W_known 78 false (by kernel_rfl) hc4271 ?_
                  refine W_run 2 [(0, .slice p2717 x2715.length c2718), (1, .slice p2722 x2720.length c2723), (2, .int .i64 x2725), (3, .int .i64 x2726), (10, .slice p3483 r3481.1.length c3484), (11, .bool r3481.2), (14, .slice p3925 r3923.1.length c3926), (15, .bool r3923.2), (78, .bool false), (79, .slice p3925 r3923.1.length c3926), (80, .slice p3483 r3481.1.length c3484)] w4259 (by kernel_rfl) ?_
                  obtain ⟨r4272, hr4272, hm⟩ := gx_bind hm
                  refine W_call 19 #[.slice p3925 r3923.1.length c3926, .slice p3483 r3481.1.length c3484] (by kernel_rfl) (by kernel_rfl) ?_
                  refine (c_l_eqBalloonS w4259 r3923.1 p3925 c3926 (ho3929.rd M4261 2 (by kernel_rfl) 3 (by kernel_rfl)) r3481.1 p3483 c3484 (ho3487.rd M4261 0 (by kernel_rfl) 1 (by kernel_rfl)) hr4272).mono ?_
                  rintro e_ w4273 ⟨rfl, K4274⟩
                  have M4275 := M4261.call0 K4274
                  refine ⟨_, rfl, ?_⟩
                  refine W_run 3 [(0, .slice p2717 x2715.length c2718), (1, .slice p2722 x2720.length c2723), (2, .int .i64 x2725), (3, .int .i64 x2726), (10, .slice p3483 r3481.1.length c3484), (11, .bool r3481.2), (14, .slice p3925 r3923.1.length c3926), (15, .bool r3923.2), (84, .bool (!r4272))] w4273 (by kernel_rfl) ?_
                  rcases gx_bif hm with ⟨hc4276, hm⟩ | ⟨hc4276, hm⟩
                  · refine W_known 84 true (by kernel_rfl) hc4276 ?_
                    refine W_run 4 [(0, .slice p2717 x2715.length c2718), (1, .slice p2722 x2720.length c2723), (2, .int .i64 x2725), (3, .int .i64 x2726), (10, .slice p3483 r3481.1.length c3484), (11, .bool r3481.2), (14, .slice p3925 r3923.1.length c3926), (88, .bool true)] w4273 (by kernel_rfl) ?_
                    refine W_nil ?_
                    obtain rfl := Option.some.inj hm
                    exact N_meet fun a ha => ⟨M4275.pick [0, 1, 2, 3] (by kernel_rfl), ha.sub (by kernel_rfl)⟩
                  · refine W_known 84 false (by kernel_rfl) hc4276 ?_
                    refine W_run 4 [(0, .slice p2717 x2715.length c2718), (1, .slice p2722 x2720.length c2723), (2, .int .i64 x2725), (3, .int .i64 x2726), (10, .slice p3483 r3481.1.length c3484), (11, .bool r3481.2), (14, .slice p3925 r3923.1.length c3926), (88, .bool (!(r3923.2 == r3481.2)))] w4273 (by kernel_rfl) ?_
                    refine W_nil ?_
                    obtain rfl := Option.some.inj hm
                    exact N_meet fun a ha => ⟨M4275.pick [0, 1, 2, 3] (by kernel_rfl), ha.sub (by kernel_rfl)⟩
              · intro a4279 w4277 ⟨M4278, hS4280⟩
                refine N_use hS4280 ?_
                have hm := hm4270
                refine N_then ?_
                rcases gx_bif hm with ⟨hc4281, hm⟩ | ⟨hc4281, hm⟩
                · refine G_cond_t (b := o4268) hc4281 (by kernel_rfl) ?_
                  refine G_seq ?_
                  refine G_region ?_
                  refine W_run 1 [(8, .bool false)] w4277 (by kernel_rfl) ?_
                  refine W_nil ?_
                  refine N_then ?_
                  refine G_ret ?_
                  refine N_then_ret ?_
                  obtain rfl := Option.some.inj hm
                  refine N_ret [.bool false] (RVs_cons (RV_tmp (by kernel_rfl)) RVs_nil) ?_
                  exact ⟨rfl, M4278.pick [] (by kernel_rfl)⟩
                · refine G_cond_f (b := o4268) hc4281 (by kernel_rfl) ?_
                  refine G_skip ?_
                  refine N_then ?_
                  refine G_seq ?_
                  refine G_region ?_
                  refine W_run 1 [(0, .slice p2717 x2715.length c2718), (1, .slice p2722 x2720.length c2723), (2, .int .i64 x2725), (3, .int .i64 x2726), (10, .slice p3483 r3481.1.length c3484), (11, .bool r3481.2), (14, .slice p3925 r3923.1.length c3926), (17, .int .i64 1)] w4277 (by kernel_rfl) ?_
                  refine W_nil ?_
                  refine N_then ?_
                  refine G_seq ?_
                  refine G_region ?_
                  refine W_run 2 [(0, .slice p2717 x2715.length c2718), (1, .slice p2722 x2720.length c2723), (2, .int .i64 x2725), (3, .int .i64 x2726), (10, .slice p3483 r3481.1.length c3484), (11, .bool r3481.2), (14, .slice p3925 r3923.1.length c3926), (17, .int .i64 1), (89, .slice p3925 r3923.1.length c3926), (90, .int .i64 1)] w4277 (by kernel_rfl) ?_
                  obtain ⟨r4282, hr4282, hm⟩ := gx_bind hm
                  refine W_call 25 #[.slice p3925 r3923.1.length c3926, .int .i64 1] (by kernel_rfl) (by kernel_rfl) ?_
                  refine (c_l_markBalloonS w4277 r3923.1 p3925 c3926 sg3927 sg3928 ho3929 1 (M4278.hasPick [2, 3]) (M4278.nodupPick [2, 3] (by kernel_rfl)) hr4282).mono ?_
                  rintro e_ w4287 ⟨sg4283, sg4284, rfl, ho4285, hl4286, K4288⟩
                  have M4289 := M4278.callF' [2, 3] [0, 1] (by kernel_rfl) K4288
                  refine ⟨_, rfl, ?_⟩
                  refine W_conv 14 (.slice p3925 r3923.1.length c3926) (.slice p3925 r4282.2.length c3926) (by kernel_rfl) (by first | rw [hl4286] | rw [hl4286]) ?_
                  refine W_conv 89 (.slice p3925 r3923.1.length c3926) (.slice p3925 r4282.2.length c3926) (by kernel_rfl) (by first | rw [hl4286] | rw [hl4286]) ?_
                  refine W_run 1 [(0, .slice p2717 x2715.length c2718), (1, .slice p2722 x2720.length c2723), (2, .int .i64 x2725), (3, .int .i64 x2726), (10, .slice p3483 r3481.1.length c3484), (11, .bool r3481.2), (14, .slice p3925 r4282.2.length c3926), (17, .int .i64 r4282.1)] w4287 (by kernel_rfl) ?_
                  refine W_nil ?_
                  refine N_then ?_
                  refine G_seq ?_
                  refine G_region ?_
                  refine W_run 1 [(0, .slice p2717 x2715.length c2718), (1, .slice p2722 x2720.length c2723), (2, .int .i64 x2725), (3, .int .i64 x2726), (10, .slice p3483 r3481.1.length c3484), (11, .bool r3481.2), (14, .slice p3925 r4282.2.length c3926), (17, .int .i64 r4282.1), (18, .int .i64 1)] w4287 (by kernel_rfl) ?_
                  refine W_nil ?_
                  refine N_then ?_
                  refine G_seq ?_
                  refine G_region ?_
                  refine W_run 2 [(0, .slice p2717 x2715.length c2718), (1, .slice p2722 x2720.length c2723), (2, .int .i64 x2725), (3, .int .i64 x2726), (10, .slice p3483 r3481.1.length c3484), (11, .bool r3481.2), (14, .slice p3925 r4282.2.length c3926), (17, .int .i64 r4282.1), (18, .int .i64 1), (92, .slice p3925 r4282.2.length c3926), (93, .int .i64 1)] w4287 (by kernel_rfl) ?_
                  obtain ⟨r4413, hr4413, hm⟩ := gx_bind hm
                  refine W_call 26 #[.slice p3925 r4282.2.length c3926, .int .i64 1] (by kernel_rfl) (by kernel_rfl) ?_
                  refine (c_l_heldBalloonS w4287 r4282.2 p3925 c3926 (ho4285.rd M4289 2 (by kernel_rfl) 3 (by kernel_rfl)) 1 hr4413).mono ?_
                  rintro e_ w4414 ⟨rfl, K4415⟩
                  have M4416 := M4289.call0 K4415
                  refine ⟨_, rfl, ?_⟩
                  refine W_run 1 [(0, .slice p2717 x2715.length c2718), (1, .slice p2722 x2720.length c2723), (2, .int .i64 x2725), (3, .int .i64 x2726), (10, .slice p3483 r3481.1.length c3484), (11, .bool r3481.2), (14, .slice p3925 r4282.2.length c3926), (17, .int .i64 r4282.1), (18, .int .i64 r4413)] w4414 (by kernel_rfl) ?_
                  refine W_nil ?_
                  refine N_then ?_
                  refine G_seq ?_
                  refine G_seq ?_
                  refine G_region ?_
                  refine W_run 2 [(0, .slice p2717 x2715.length c2718), (1, .slice p2722 x2720.length c2723), (2, .int .i64 x2725), (3, .int .i64 x2726), (10, .slice p3483 r3481.1.length c3484), (11, .bool r3481.2), (14, .slice p3925 r4282.2.length c3926), (17, .int .i64 r4282.1), (18, .int .i64 r4413), (96, .bool (decide (r4413 < 0)))] w4414 (by kernel_rfl) ?_
                  refine W_nil ?_
                  refine N_then ?_
                  rcases gx_bif hm with ⟨hc4417, hm⟩ | ⟨hc4417, hm⟩
                  · refine G_cond_t (b := (decide (r4413 < 0))) hc4417 (by kernel_rfl) ?_
                    refine G_seq ?_
                    refine G_region ?_
                    refine W_run 1 [(8, .bool false)] w4414 (by kernel_rfl) ?_
                    refine W_nil ?_
                    refine N_then ?_
                    refine G_ret ?_
                    refine N_then_ret ?_
                    obtain rfl := Option.some.inj hm
                    refine N_ret [.bool false] (RVs_cons (RV_tmp (by kernel_rfl)) RVs_nil) ?_
                    exact ⟨rfl, M4416.pick [] (by kernel_rfl)⟩
                  · refine G_cond_f (b := (decide (r4413 < 0))) hc4417 (by kernel_rfl) ?_
                    refine G_skip ?_
                    refine N_then ?_
                    refine G_seq ?_
                    refine G_seq ?_
                    refine G_region ?_
                    refine W_run 3 [(0, .slice p2717 x2715.length c2718), (1, .slice p2722 x2720.length c2723), (2, .int .i64 x2725), (3, .int .i64 x2726), (10, .slice p3483 r3481.1.length c3484), (11, .bool r3481.2), (14, .slice p3925 r4282.2.length c3926), (17, .int .i64 r4282.1), (99, .bool (r4413 != r4282.1))] w4414 (by kernel_rfl) ?_
                    refine W_nil ?_
                    refine N_then ?_
                    rcases gx_bif hm with ⟨hc4418, hm⟩ | ⟨hc4418, hm⟩
                    · refine G_cond_t (b := (r4413 != r4282.1)) hc4418 (by kernel_rfl) ?_
                      refine G_seq ?_
                      refine G_region ?_
                      refine W_run 1 [(8, .bool false)] w4414 (by kernel_rfl) ?_
                      refine W_nil ?_
                      refine N_then ?_
                      refine G_ret ?_
                      refine N_then_ret ?_
                      obtain rfl := Option.some.inj hm
                      refine N_ret [.bool false] (RVs_cons (RV_tmp (by kernel_rfl)) RVs_nil) ?_
                      exact ⟨rfl, M4416.pick [] (by kernel_rfl)⟩
                    · refine G_cond_f (b := (r4413 != r4282.1)) hc4418 (by kernel_rfl) ?_
                      refine G_skip ?_
                      refine N_then ?_
                      refine G_seq ?_
                      refine G_region ?_
                      refine W_run 1 [(1, .slice p2722 x2720.length c2723), (2, .int .i64 x2725), (3, .int .i64 x2726), (10, .slice p3483 r3481.1.length c3484), (11, .bool r3481.2), (14, .slice p3925 r4282.2.length c3926), (17, .int .i64 r4282.1), (101, .slice p2717 x2715.length c2718)] w4414 (by kernel_rfl) ?_
                      obtain ⟨r4419, hr4419, hm⟩ := gx_bind hm
                      refine W_call 15 #[.slice p2717 x2715.length c2718] (by kernel_rfl) (by kernel_rfl) ?_
                      refine (c_l_toIntS w4414 x2715 p2717 c2718 (h2719.mem0 M4416) hr4419).mono ?_
                      rintro e_ w4425 ⟨p4421, c4422, sg4423, rfl, ho4424, K4426⟩
                      have M4427 := M4416.call K4426
                      refine ⟨_, rfl, ?_⟩
                      refine W_run 1 [(2, .int .i64 x2725), (3, .int .i64 x2726), (10, .slice p3483 r3481.1.length c3484), (11, .bool r3481.2), (14, .slice p3925 r4282.2.length c3926), (17, .int .i64 r4282.1), (102, .slice p4421 r4419.length c4422), (103, .slice p2722 x2720.length c2723)] w4425 (by kernel_rfl) ?_
                      obtain ⟨r4428, hr4428, hm⟩ := gx_bind hm
                      refine W_call 16 #[.slice p2722 x2720.length c2723] (by kernel_rfl) (by kernel_rfl) ?_
                      refine (c_l_toBalloonS w4425 x2720 p2722 c2723 (h2724.mem0 M4427) hr4428).mono ?_
                      rintro e_ w4435 ⟨p4430, c4431, sg4432, sg4433, rfl, ho4434, K4436⟩
                      have M4437 := M4427.call K4436
                      refine ⟨_, rfl, ?_⟩
                      refine W_run 2 [(10, .slice p3483 r3481.1.length c3484), (11, .bool r3481.2), (14, .slice p3925 r4282.2.length c3926), (17, .int .i64 r4282.1), (102, .slice p4421 r4419.length c4422), (104, .slice p4430 r4428.length c4431), (105, .int .i64 x2725), (106, .int .i64 x2726)] w4435 (by kernel_rfl) ?_
                      obtain ⟨r4438, hr4438, hm⟩ := gx_bind hm
                      refine W_call 23 #[.slice p4421 r4419.length c4422, .slice p4430 r4428.length c4431, .int .i64 x2725, .int .i64 x2726] (by kernel_rfl) (by kernel_rfl) ?_
                      refine (c_i_SetGoal w4435 r4419 p4421 c4422 (ho4424.rd M4437 4 (by kernel_rfl)) r4428 p4430 c4431 (ho4434.rd M4437 5 (by kernel_rfl) 6 (by kernel_rfl)) x2725 x2726 hr4438).mono ?_
                      rintro e_ w4445 ⟨p4440, c4441, sg4442, sg4443, rfl, ho4444, K4446⟩
                      have M4447 := M4437.call K4446
                      refine ⟨_, rfl, ?_⟩
                      refine W_run 5 [(10, .slice p3483 r3481.1.length c3484), (11, .bool r3481.2), (14, .slice p3925 r4282.2.length c3926), (17, .int .i64 r4282.1), (19, .slice p4440 r4438.1.length c4441), (20, .bool r4438.2)] w4445 (by kernel_rfl) ?_
                      refine W_nil ?_
                      refine N_then ?_
                      refine G_seq ?_
                      refine G_seq ?_
                      obtain ⟨o4453, ho4454, hm4455⟩ := gx_bind hm
                      refine G_meet (fun a w' => Mem [] w w' [sg4283, sg4284] ∧ Sat Try.f5.ntmps [(14, .slice p3925 r4282.2.length c3926), (17, .int .i64 r4282.1), (118, .bool o4453)] a) ?_ ?_
                      · have hm := ho4454
                        refine G_region ?_
                        refine W_run 2 [(11, .bool r3481.2), (14, .slice p3925 r4282.2.length c3926), (17, .int .i64 r4282.1), (20, .bool r4438.2), (110, .slice p4440 r4438.1.length c4441), (111, .slice p3483 r3481.1.length c3484)] w4445 (by kernel_rfl) ?_
                        obtain ⟨r4456, hr4456, hm⟩ := gx_bind hm
                        refine W_call 19 #[.slice p4440 r4438.1.length c4441, .slice p3483 r3481.1.length c3484] (by kernel_rfl) (by kernel_rfl) ?_
                        refine (c_l_eqBalloonS w4445 r4438.1 p4440 c4441 (ho4444.rd M4447 7 (by kernel_rfl) 8 (by kernel_rfl)) r3481.1 p3483 c3484 (ho3487.rd M4447 0 (by kernel_rfl) 1 (by kernel_rfl)) hr4456).mono ?_
                        rintro e_ w4457 ⟨rfl, K4458⟩
                        have M4459 := M4447.call0 K4458
                        refine ⟨_, rfl, ?_⟩
                        refine W_run 2 [(11, .bool r3481.2), (14, .slice p3925 r4282.2.length c3926), (17, .int .i64 r4282.1), (20, .bool r4438.2), (114, .bool (!r4456))] w4457 (by kernel_rfl) ?_
                        rcases gx_bif hm with ⟨hc4460, hm⟩ | ⟨hc4460, hm⟩
                        · refine W_known 114 true (by kernel_rfl) hc4460 ?_
                          refine W_run 4 [(14, .slice p3925 r4282.2.length c3926), (17, .int .i64 r4282.1), (118, .bool true)] w4457 (by kernel_rfl) ?_
                          refine W_nil ?_
                          obtain rfl := Option.some.inj hm
                          exact N_meet fun a ha => ⟨M4459.pick [2, 3] (by kernel_rfl), ha.sub (by kernel_rfl)⟩
                        · refine W_known 114 false (by kernel_rfl) hc4460 ?_
                          refine W_run 4 [(14, .slice p3925 r4282.2.length c3926), (17, .int .i64 r4282.1), (118, .bool (!(r4438.2 == r3481.2)))] w4457 (by kernel_rfl) ?_
                          refine W_nil ?_
                          obtain rfl := Option.some.inj hm
                          exact N_meet fun a ha => ⟨M4459.pick [2, 3] (by kernel_rfl), ha.sub (by kernel_rfl)⟩
                      · intro a4463 w4461 ⟨M4462, hS4464⟩
                        refine N_use hS4464 ?_
                        have hm := hm4455
                        refine N_then ?_
                        rcases gx_bif hm with ⟨hc4465, hm⟩ | ⟨hc4465, hm⟩
                        · refine G_cond_t (b := o4453) hc4465 (by kernel_rfl) ?_
                          refine G_seq ?_
                          refine G_region ?_
                          refine W_run 1 [(8, .bool false)] w4461 (by kernel_rfl) ?_
                          refine W_nil ?_
                          refine N_then ?_
                          refine G_ret ?_
                          refine N_then_ret ?_
                          obtain rfl := Option.some.inj hm
                          refine N_ret [.bool false] (RVs_cons (RV_tmp (by kernel_rfl)) RVs_nil) ?_
                          exact ⟨rfl, M4462.pick [] (by kernel_rfl)⟩
                        · refine G_cond_f (b := o4453) hc4465 (by kernel_rfl) ?_
                          refine G_skip ?_
                          refine N_then ?_
                          refine G_seq ?_
                          refine G_region ?_
                          refine W_run 1 [(14, .slice p3925 r4282.2.length c3926), (17, .int .i64 r4282.1), (18, .int .i64 1)] w4461 (by kernel_rfl) ?_
                          refine W_nil ?_
                          refine N_then ?_
                          refine G_seq ?_
                          refine G_region ?_
                          refine W_run 2 [(17, .int .i64 r4282.1), (18, .int .i64 1), (119, .slice p3925 r4282.2.length c3926), (120, .int .i64 1)] w4461 (by kernel_rfl) ?_
                          obtain ⟨r4466, hr4466, hm⟩ := gx_bind hm
                          refine W_call 26 #[.slice p3925 r4282.2.length c3926, .int .i64 1] (by kernel_rfl) (by kernel_rfl) ?_
                          refine (c_l_heldBalloonS w4461 r4282.2 p3925 c3926 (ho4285.rd M4462 0 (by kernel_rfl) 1 (by kernel_rfl)) 1 hr4466).mono ?_
                          rintro e_ w4467 ⟨rfl, K4468⟩
                          have M4469 := M4462.call0 K4468
                          refine ⟨_, rfl, ?_⟩
                          refine W_run 1 [(17, .int .i64 r4282.1), (18, .int .i64 r4466)] w4467 (by kernel_rfl) ?_
                          refine W_nil ?_
                          refine N_then ?_
                          refine G_seq ?_
                          refine G_seq ?_
                          refine G_region ?_
                          refine W_run 2 [(17, .int .i64 r4282.1), (18, .int .i64 r4466), (123, .bool (decide (r4466 < 0)))] w4467 (by kernel_rfl) ?_
                          refine W_nil ?_
                          refine N_then ?_
                          rcases gx_bif hm with ⟨hc4470, hm⟩ | ⟨hc4470, hm⟩
                          · refine G_cond_t (b := (decide (r4466 < 0))) hc4470 (by kernel_rfl) ?_
                            refine G_seq ?_
                            refine G_region ?_
                            refine W_run 1 [(8, .bool false)] w4467 (by kernel_rfl) ?_
                            refine W_nil ?_
                            refine N_then ?_
                            refine G_ret ?_
                            refine N_then_ret ?_
                            obtain rfl := Option.some.inj hm
                            refine N_ret [.bool false] (RVs_cons (RV_tmp (by kernel_rfl)) RVs_nil) ?_
                            exact ⟨rfl, M4469.pick [] (by kernel_rfl)⟩
                          · refine G_cond_f (b := (decide (r4466 < 0))) hc4470 (by kernel_rfl) ?_
                            refine G_skip ?_
                            refine N_then ?_
                            refine G_seq ?_
                            refine G_seq ?_
                            refine G_region ?_
                            refine W_run 3 [(126, .bool (r4466 != r4282.1))] w4467 (by kernel_rfl) ?_
                            refine W_nil ?_
                            refine N_then ?_
                            rcases gx_bif hm with ⟨hc4471, hm⟩ | ⟨hc4471, hm⟩
                            · refine G_cond_t (b := (r4466 != r4282.1)) hc4471 (by kernel_rfl) ?_
                              refine G_seq ?_
                              refine G_region ?_
                              refine W_run 1 [(8, .bool false)] w4467 (by kernel_rfl) ?_
                              refine W_nil ?_
                              refine N_then ?_
                              refine G_ret ?_
                              refine N_then_ret ?_
                              obtain rfl := Option.some.inj hm
                              refine N_ret [.bool false] (RVs_cons (RV_tmp (by kernel_rfl)) RVs_nil) ?_
                              exact ⟨rfl, M4469.pick [] (by kernel_rfl)⟩
                            · refine G_cond_f (b := (r4466 != r4282.1)) hc4471 (by kernel_rfl) ?_
                              refine G_skip ?_
                              refine N_then ?_
                              refine G_seq ?_
                              refine G_region ?_
                              refine W_run 1 [(8, .bool true)] w4467 (by kernel_rfl) ?_
                              refine W_nil ?_
                              refine N_then ?_
                              refine G_ret ?_
                              obtain rfl := Option.some.inj hm
                              refine N_ret [.bool true] (RVs_cons (RV_tmp (by kernel_rfl)) RVs_nil) ?_
                              exact ⟨rfl, M4469.pick [] (by kernel_rfl)⟩
theorem c_s_l18Count (w : World) (x4671 : List Int) (p4673 : Option Addr) (c4674 : Nat) (h4675 : rdS encI w x4671 p4673 c4674) (x4676 : Int) {r : Int} (hm : M.s_l18Count x4671 x4676 = some r) :
    Calls Try.prog 65 #[.slice p4673 x4671.length c4674, .int .i64 x4676] w fun e w' => e = .returned (.int .i64 r) ∧ Mem [] w w' [] := by
  unfold M.s_l18Count at hm
  refine C_enter Try.func65 rfl (by kernel_rfl) ?_
  have M0 := Mem.refl [] w
  refine G_seq ?_
  refine G_region ?_
  refine W_run 1 [(0, .slice p4673 x4671.length c4674), (1, .int .i64 x4676)] w (by kernel_rfl) ?_
  refine W_nil ?_
  refine N_then ?_
  refine G_seq ?_
  refine G_region ?_
  refine W_run 1 [(0, .slice p4673 x4671.length c4674), (1, .int .i64 x4676), (5, .int .i64 0)] w (by kernel_rfl) ?_
  refine W_nil ?_
  refine N_then ?_
  refine G_seq ?_
  refine G_seq ?_
  refine G_region ?_
  refine W_run 1 [(0, .slice p4673 x4671.length c4674), (1, .int .i64 x4676), (5, .int .i64 0), (6, .int .i64 0)] w (by kernel_rfl) ?_
  refine W_nil ?_
  refine N_then ?_
  obtain ⟨out4706, hw4707, hmo4708⟩ := gx_bind hm
  refine G_meet (fun a w' => Mem [] w w' [] ∧ Sat Try.f65.ntmps [(5, .int .i64 out4706)] a) ?_ ?_
  · refine G_block ?_
    refine G_while (σ := Int × Int) (ρ := Int) (fun s4699 a w' => Mem [] w w' [] ∧ Sat Try.f65.ntmps [(0, .slice p4673 x4671.length c4674), (1, .int .i64 x4676), (5, .int .i64 s4699.1), (6, .int .i64 s4699.2)] a) hw4707 (fun a ha => ⟨M0.pick [] (by kernel_rfl), ha.sub (by kernel_rfl)⟩) ?_
    clear hm
    intro s4699 x4700 hm hout4701 a4702 w4703 ⟨M4704, hS4705⟩
    refine G_use hS4705 ?_
    refine G_seq ?_
    refine G_seq ?_
    refine G_region ?_
    refine W_run 4 [(0, .slice p4673 x4671.length c4674), (1, .int .i64 x4676), (5, .int .i64 s4699.1), (6, .int .i64 s4699.2), (10, .bool (decide (s4699.2 < (x4671.length : Int))))] w4703 (by kernel_rfl) ?_
    refine W_nil ?_
    refine N_then ?_
    rcases gx_bif hm with ⟨hc4710, hm⟩ | ⟨hc4710, hm⟩
    · refine G_cond_t (b := (decide (s4699.2 < (x4671.length : Int)))) hc4710 (by kernel_rfl) ?_
      refine G_skip ?_
      refine N_then ?_
      refine G_seq ?_
      refine G_block ?_
      refine G_seq ?_
      refine G_region ?_
      refine W_run 2 [(0, .slice p4673 x4671.length c4674), (1, .int .i64 x4676), (5, .int .i64 s4699.1), (6, .int .i64 s4699.2), (13, .slice p4673 x4671.length c4674), (14, .int .i64 s4699.2)] w4703 (by kernel_rfl) ?_
      obtain ⟨y4711, hy4711, hm⟩ := gx_bind hm
      refine W_val (elemP p4673 (s4699.2.toNat * 1)) w4703 (by kernel_rfl) (E_index (E := encI) _ _ _ x4671.length c4674 .i64 s4699.2 1 (y := y4711) rfl (by kernel_rfl) (by kernel_rfl) (by kernel_rfl) (h4675.mem0 M4704) rfl hy4711) ?_
      refine W_val (.int .i64 y4711) w4703 (by kernel_rfl) (E_loadE (E := encI) _ _ false 1 s4699.2 0 (s4699.2.toNat * 1) y4711 (.int .i64 y4711) rfl (by kernel_rfl) (by kernel_rfl) (by kernel_rfl) (h4675.mem0 M4704) hy4711 rfl) ?_
      refine W_run 2 [(0, .slice p4673 x4671.length c4674), (1, .int .i64 x4676), (5, .int .i64 s4699.1), (6, .int .i64 s4699.2), (18, .bool (y4711 == x4676))] w4703 (by kernel_rfl) ?_
      refine W_nil ?_
      refine N_then ?_
      obtain ⟨o4713, ho4714, hm4715⟩ := gx_bind hm
      refine G_meet (fun a w' => Mem [] w w' [] ∧ Sat Try.f65.ntmps [(0, .slice p4673 x4671.length c4674), (1, .int .i64 x4676), (5, .int .i64 o4713), (6, .int .i64 s4699.2)] a) ?_ ?_
      · have hm := ho4714
        rcases gx_bif hm with ⟨hc4716, hm⟩ | ⟨hc4716, hm⟩
        · refine G_cond_t (b := (y4711 == x4676)) hc4716 (by kernel_rfl) ?_
          refine G_region ?_
          refine W_run 3 [(0, .slice p4673 x4671.length c4674), (1, .int .i64 x4676), (5, .int .i64 (w64 (s4699.1 + 1))), (6, .int .i64 s4699.2)] w4703 (by kernel_rfl) ?_
          refine W_nil ?_
          obtain rfl := Option.some.inj hm
          exact N_meet fun a ha => ⟨M4704.pick [] (by kernel_rfl), ha.sub (by kernel_rfl)⟩
        · refine G_cond_f (b := (y4711 == x4676)) hc4716 (by kernel_rfl) ?_
          refine G_skip ?_
          obtain rfl := Option.some.inj hm
          exact N_meet fun a ha => ⟨M4704.pick [] (by kernel_rfl), ha.sub (by kernel_rfl)⟩
      · intro a4719 w4717 ⟨M4718, hS4720⟩
        refine N_use hS4720 ?_
        have hm := hm4715
        refine N_block ?_
        refine N_then ?_
        refine G_region ?_
        refine W_run 3 [(0, .slice p4673 x4671.length c4674), (1, .int .i64 x4676), (5, .int .i64 o4713), (6, .int .i64 (w64 (s4699.2 + 1)))] w4717 (by kernel_rfl) ?_
        refine W_nil ?_
        obtain rfl := Option.some.inj hm
        exact N_loop fun a ha => ⟨_, rfl, M4718.pick [] (by kernel_rfl), ha.sub (by kernel_rfl)⟩
    · refine G_cond_f (b := (decide (s4699.2 < (x4671.length : Int)))) hc4710 (by kernel_rfl) ?_
      refine G_exit ?_
      refine N_then_exit ?_
      refine N_then_exit ?_
      refine N_block_eq ?_
      obtain rfl := Option.some.inj hm
      obtain rfl := hout4701 _ rfl
      exact N_meet fun a ha => ⟨M4704.pick [] (by kernel_rfl), ha.sub (by kernel_rfl)⟩
  · intro a4721 w4722 ⟨M4723, hS4724⟩
    refine N_use hS4724 ?_
    have hm := hmo4708
    refine N_then ?_
    refine G_seq ?_
    refine G_region ?_
    refine W_run 2 [(4, .int .i64 out4706)] w4722 (by kernel_rfl) ?_
    refine W_nil ?_
    refine N_then ?_
    refine G_ret ?_
    obtain rfl := Option.some.inj hm
    refine N_ret [.int .i64 out4706] (RVs_cons (RV_tmp (by kernel_rfl)) RVs_nil) ?_
    exact ⟨rfl, M4723.pick [] (by kernel_rfl)⟩
theorem c_s_ShareGoals (w : World) (x4508 : List Int) (p4510 : Option Addr) (c4511 : Nat) (h4512 : rdS encI w x4508 p4510 c4511) (x4513 : List Balloon) (p4515 : Option Addr) (c4516 : Nat) (h4517 : rdD deepBalloon w x4513 p4515 c4516) (x4518 : Int) {r : (List Balloon) × Bool} (hm : M.s_ShareGoals x4508 x4513 x4518 = some r) :
    Calls Try.prog 30 #[.slice p4510 x4508.length c4511, .slice p4515 x4513.length c4516, .int .i64 x4518] w fun e w' => ∃ (p4520 : Option Addr) (c4521 : Nat) (sg4522 : Seg) (sg4523 : Seg), e = .returned (.tuple #[.slice p4520 r.1.length c4521, .bool r.2]) ∧ ownD deepBalloon r.1 p4520 c4521 sg4522 sg4523 ∧ Mem [] w w' [sg4522, sg4523] := by
  unfold M.s_ShareGoals at hm
  refine C_enter Try.func30 rfl (by kernel_rfl) ?_
  have M0 := Mem.refl [] w
  refine G_seq ?_
  refine G_region ?_
  refine W_run 2 [(0, .slice p4510 x4508.length c4511), (1, .slice p4515 x4513.length c4516), (2, .int .i64 x4518)] w (by kernel_rfl) ?_
  refine W_nil ?_
  refine N_then ?_
  refine G_seq ?_
  refine G_seq ?_
  obtain ⟨o4534, ho4535, hm4536⟩ := gx_bind hm
  refine G_meet (fun a w' => Mem [] w w' [] ∧ Sat Try.f30.ntmps [(0, .slice p4510 x4508.length c4511), (1, .slice p4515 x4513.length c4516), (2, .int .i64 x4518), (22, .bool o4534)] a) ?_ ?_
  · have hm := ho4535
    refine G_region ?_
    refine W_run 2 [(0, .slice p4510 x4508.length c4511), (1, .slice p4515 x4513.length c4516), (2, .int .i64 x4518), (14, .slice p4510 x4508.length c4511), (15, .slice p4515 x4513.length c4516)] w (by kernel_rfl) ?_
    obtain ⟨r4537, hr4537, hm⟩ := gx_bind hm
    refine W_call 47 #[.slice p4510 x4508.length c4511, .slice p4515 x4513.length c4516] (by kernel_rfl) (by kernel_rfl) ?_
    refine (c_s_l18Good w x4508 p4510 c4511 (h4512.mem0 M0) x4513 p4515 c4516 (h4517.mem0 M0) hr4537).mono ?_
    rintro e_ w4538 ⟨rfl, K4539⟩
    have M4540 := M0.call0 K4539
    refine ⟨_, rfl, ?_⟩
    refine W_run 2 [(0, .slice p4510 x4508.length c4511), (1, .slice p4515 x4513.length c4516), (2, .int .i64 x4518), (18, .bool (!r4537))] w4538 (by kernel_rfl) ?_
    rcases gx_bif hm with ⟨hc4541, hm⟩ | ⟨hc4541, hm⟩
    · refine W_known 18 true (by kernel_rfl) hc4541 ?_
      refine W_run 4 [(0, .slice p4510 x4508.length c4511), (1, .slice p4515 x4513.length c4516), (2, .int .i64 x4518), (22, .bool true)] w4538 (by kernel_rfl) ?_
      refine W_nil ?_
      obtain rfl := Option.some.inj hm
      exact N_meet fun a ha => ⟨M4540.pick [] (by kernel_rfl), ha.sub (by kernel_rfl)⟩
    · refine W_known 18 false (by kernel_rfl) hc4541 ?_
      refine W_run 1 [(0, .slice p4510 x4508.length c4511), (1, .slice p4515 x4513.length c4516), (2, .int .i64 x4518), (18, .bool false), (19, .int .i64 x4518)] w4538 (by kernel_rfl) ?_
      obtain ⟨r4542, hr4542, hm⟩ := gx_bind hm
      refine W_call 57 #[.int .i64 x4518, .int .i64 0, .int .i64 16] (by kernel_rfl) (by kernel_rfl) ?_
      refine (c_s_l1In w4538 x4518 0 16 hr4542).mono ?_
      rintro e_ w4543 ⟨rfl, K4544⟩
      have M4545 := M4540.call0 K4544
      refine ⟨_, rfl, ?_⟩
      refine W_run 2 [(0, .slice p4510 x4508.length c4511), (1, .slice p4515 x4513.length c4516), (2, .int .i64 x4518), (22, .bool (!r4542))] w4543 (by kernel_rfl) ?_
      refine W_nil ?_
      obtain rfl := Option.some.inj hm
      exact N_meet fun a ha => ⟨M4545.pick [] (by kernel_rfl), ha.sub (by kernel_rfl)⟩
  · intro a4548 w4546 ⟨M4547, hS4549⟩
    refine N_use hS4549 ?_
    have hm := hm4536
    refine N_then ?_
    rcases gx_bif hm with ⟨hc4550, hm⟩ | ⟨hc4550, hm⟩
    · refine G_cond_t (b := o4534) hc4550 (by kernel_rfl) ?_
      refine G_seq ?_
      refine G_region ?_
      have M4551 : Mem [] w w4546 [] := M4547.pick [] (by kernel_rfl)
      have M4552 : Mem [] w w4546 [[]] := M4551.regroup (by simp)
      refine W_litD (D := deepBalloon) [] ([] : List Balloon) rfl 0 [] 50 M4552 (by kernel_rfl) (by kernel_rfl) (by kernel_rfl) (by kernel_rfl) (by kernel_rfl) ownI_nil ?_
      intro p4553 c4554 sg4555 w4556 ho4557 M4558
      refine W_run 2 [(6, .slice p4553 ([] : List Balloon).length c4554), (7, .bool false)] w4556 (by kernel_rfl) ?_
      refine W_nil ?_
      refine N_then ?_
      refine G_ret ?_
      refine N_then_ret ?_
      obtain rfl := Option.some.inj hm
      refine N_ret [.slice p4553 ([] : List Balloon).length c4554, .bool false] (RVs_cons (RV_tmp (by kernel_rfl)) (RVs_cons (RV_tmp (by kernel_rfl)) RVs_nil)) ?_
      exact ⟨p4553, c4554, sg4555, [], rfl, ho4557, M4558.pick [1, 0] (by kernel_rfl)⟩
    · refine G_cond_f (b := o4534) hc4550 (by kernel_rfl) ?_
      refine G_skip ?_
      refine N_then ?_
      refine G_seq ?_
      refine G_region ?_
      refine W_run 1 [(0, .slice p4510 x4508.length c4511), (2, .int .i64 x4518), (24, .slice p4515 x4513.length c4516)] w4546 (by kernel_rfl) ?_
      obtain ⟨r4561, hr4561, hm⟩ := gx_bind hm
      refine W_call 58 #[.slice p4515 x4513.length c4516, .int .i64 (-1), .int .i64 0, .slice none 0 0] (by kernel_rfl) (by kernel_rfl) ?_
      refine (c_s_l18With w4546 x4513 p4515 c4516 (h4517.mem0 M4547) (-1) 0 ([] : List Int) none 0 rdS_nil hr4561).mono ?_
      rintro e_ w4568 ⟨p4563, c4564, sg4565, sg4566, rfl, ho4567, K4569⟩
      have M4570 := M4547.call K4569
      refine ⟨_, rfl, ?_⟩
      refine W_run 1 [(0, .slice p4510 x4508.length c4511), (2, .int .i64 x4518), (8, .slice p4563 r4561.length c4564)] w4568 (by kernel_rfl) ?_
      refine W_nil ?_
      refine N_then ?_
      refine G_seq ?_
      refine G_seq ?_
      refine G_region ?_
      refine W_run 1 [(0, .slice p4510 x4508.length c4511), (2, .int .i64 x4518), (8, .slice p4563 r4561.length c4564), (9, .int .i64 0)] w4568 (by kernel_rfl) ?_
      refine W_nil ?_
      refine N_then ?_
      obtain ⟨out4622, hw4623, hmo4624⟩ := gx_bind hm
      refine G_meet (fun a w' => ∃ (p4632 : Option Addr), ∃ (c4633 : Nat), ∃ (sg4634 : Seg), ∃ (sg4635 : Seg), ownD deepBalloon out4622 p4632 c4633 sg4634 sg4635 ∧ Mem [] w w' [sg4634, sg4635] ∧ Sat Try.f30.ntmps [(0, .slice p4510 x4508.length c4511), (2, .int .i64 x4518), (8, .slice p4632 out4622.length c4633)] a) ?_ ?_
      · refine G_block ?_
        refine G_while (σ := List Balloon × Int) (ρ := List Balloon) (fun s4615 a w' => ∃ (p4625 : Option Addr), ∃ (c4626 : Nat), ∃ (sg4627 : Seg), ∃ (sg4628 : Seg), ownD deepBalloon s4615.1 p4625 c4626 sg4627 sg4628 ∧ Mem [] w w' [sg4627, sg4628] ∧ Sat Try.f30.ntmps [(0, .slice p4510 x4508.length c4511), (2, .int .i64 x4518), (8, .slice p4625 s4615.1.length c4626), (9, .int .i64 s4615.2)] a) hw4623 (fun a ha => ⟨p4563, c4564, sg4565, sg4566, ho4567, M4570.pick [0, 1] (by kernel_rfl), ha.sub (by kernel_rfl)⟩) ?_
        clear hm
        intro s4615 x4616 hm hout4617 a4618 w4619 ⟨p4625, c4626, sg4627, sg4628, ho4629, M4620, hS4621⟩
        refine G_use hS4621 ?_
        refine G_seq ?_
        refine G_seq ?_
        refine G_region ?_
        refine W_run 4 [(0, .slice p4510 x4508.length c4511), (2, .int .i64 x4518), (8, .slice p4625 s4615.1.length c4626), (9, .int .i64 s4615.2), (29, .bool (decide (s4615.2 < (s4615.1.length : Int))))] w4619 (by kernel_rfl) ?_
        refine W_nil ?_
        refine N_then ?_
        rcases gx_bif hm with ⟨hc4638, hm⟩ | ⟨hc4638, hm⟩
        · refine G_cond_t (b := (decide (s4615.2 < (s4615.1.length : Int)))) hc4638 (by kernel_rfl) ?_
          refine G_skip ?_
          refine N_then ?_
          refine G_seq ?_
          refine G_block ?_
          refine G_region ?_
          refine W_run 4 [(0, .slice p4510 x4508.length c4511), (2, .int .i64 x4518), (8, .slice p4625 s4615.1.length c4626), (9, .int .i64 s4615.2), (32, .slice p4625 s4615.1.length c4626), (33, .int .i64 s4615.2), (34, .slice p4625 s4615.1.length c4626), (35, .int .i64 s4615.2)] w4619 (by kernel_rfl) ?_
          obtain ⟨y4639, hy4639, hm⟩ := gx_bind hm
          obtain ⟨zs4640, hz4641, hr4642, hi4643⟩ := id ho4629
          obtain ⟨g4644, hg4645⟩ := gxIdx_fst hz4641 hy4639
          refine W_val (elemP p4625 (s4615.2.toNat * 3)) w4619 (by kernel_rfl) (E_index (E := deepBalloon.E) _ _ _ s4615.1.length c4626 .i64 s4615.2 3 (y := (y4639, g4644)) rfl (by kernel_rfl) (by kernel_rfl) (by kernel_rfl) (hr4642.rd M4620 0 (by kernel_rfl)) (len_fst hz4641) hg4645) ?_
          refine W_val (elemP p4625 (s4615.2.toNat * 3 + 2)) w4619 (by kernel_rfl) (E_fieldE (E := deepBalloon.E) _ _ 2 (s4615.2.toNat * 3) 2 rfl (by kernel_rfl) (by kernel_rfl) (hr4642.rd M4620 0 (by kernel_rfl)) hg4645) ?_
          refine W_val (.slice ((g4644 0).1) y4639.Gave.length ((g4644 0).2)) w4619 (by kernel_rfl) (E_loadE (E := deepBalloon.E) _ _ false 1 s4615.2 2 (s4615.2.toNat * 3 + 2) (y4639, g4644) (.slice ((g4644 0).1) y4639.Gave.length ((g4644 0).2)) rfl (by kernel_rfl) (by kernel_rfl) (by kernel_rfl) (hr4642.rd M4620 0 (by kernel_rfl)) hg4645 rfl) ?_
          obtain ⟨r4647, hr4647, hm⟩ := gx_bind hm
          refine W_call 58 #[.slice p4625 s4615.1.length c4626, .int .i64 s4615.2, .int .i64 0, .slice ((g4644 0).1) y4639.Gave.length ((g4644 0).2)] (by kernel_rfl) (by kernel_rfl) ?_
          refine (c_s_l18With w4619 s4615.1 p4625 c4626 (ho4629.rd M4620 0 (by kernel_rfl) 1 (by kernel_rfl)) s4615.2 0 y4639.Gave ((g4644 0).1) ((g4644 0).2) ((hi4643.rd M4620 1 (by kernel_rfl)).at_ hg4645 0 ⟨Int, encI, y4639.Gave, (g4644 0).1, (g4644 0).2⟩ (by kernel_rfl)) hr4647).mono ?_
          rintro e_ w4654 ⟨p4649, c4650, sg4651, sg4652, rfl, ho4653, K4655⟩
          have M4656 := M4620.call K4655
          refine ⟨_, rfl, ?_⟩
          refine W_run 1 [(0, .slice p4510 x4508.length c4511), (2, .int .i64 x4518), (8, .slice p4649 r4647.length c4650), (9, .int .i64 s4615.2)] w4654 (by kernel_rfl) ?_
          refine W_nil ?_
          refine N_block ?_
          refine N_then ?_
          refine G_region ?_
          refine W_run 3 [(0, .slice p4510 x4508.length c4511), (2, .int .i64 x4518), (8, .slice p4649 r4647.length c4650), (9, .int .i64 (w64 (s4615.2 + 1)))] w4654 (by kernel_rfl) ?_
          refine W_nil ?_
          obtain rfl := Option.some.inj hm
          exact N_loop fun a ha => ⟨_, rfl, p4649, c4650, sg4651, sg4652, ho4653, M4656.pick [2, 3] (by kernel_rfl), ha.sub (by kernel_rfl)⟩
        · refine G_cond_f (b := (decide (s4615.2 < (s4615.1.length : Int)))) hc4638 (by kernel_rfl) ?_
          refine G_exit ?_
          refine N_then_exit ?_
          refine N_then_exit ?_
          refine N_block_eq ?_
          obtain rfl := Option.some.inj hm
          obtain rfl := hout4617 _ rfl
          exact N_meet fun a ha => ⟨p4625, c4626, sg4627, sg4628, ho4629, M4620.pick [0, 1] (by kernel_rfl), ha.sub (by kernel_rfl)⟩
      · intro a4657 w4658 ⟨p4632, c4633, sg4634, sg4635, ho4636, M4659, hS4660⟩
        refine N_use hS4660 ?_
        have hm := hmo4624
        refine N_then ?_
        refine G_seq ?_
        obtain ⟨out5130, hw5131, hmo5132⟩ := gx_bind hm
        refine G_meet (fun a w' => ∃ (o5139 : List Balloon), ∃ (p5140 : Option Addr), ∃ (c5141 : Nat), ∃ (sg5142 : Seg), ∃ (sg5143 : Seg), ownD deepBalloon o5139 p5140 c5141 sg5142 sg5143 ∧ out5130 = .inl o5139 ∧ Mem [] w w' [sg5142, sg5143] ∧ Sat Try.f30.ntmps [(8, .slice p5140 o5139.length c5141)] a) ?_ ?_
        · refine G_block ?_
          refine G_while (σ := Int × List Balloon) (ρ := (List Balloon) ⊕ ((List Balloon) × Bool)) (fun s5123 a w' => ∃ (p5133 : Option Addr), ∃ (c5134 : Nat), ∃ (sg5135 : Seg), ∃ (sg5136 : Seg), ownD deepBalloon s5123.2 p5133 c5134 sg5135 sg5136 ∧ Mem [] w w' [sg5135, sg5136] ∧ Sat Try.f30.ntmps [(0, .slice p4510 x4508.length c4511), (2, .int .i64 s5123.1), (8, .slice p5133 s5123.2.length c5134)] a) hw5131 (fun a ha => ⟨p4632, c4633, sg4634, sg4635, ho4636, M4659.pick [0, 1] (by kernel_rfl), ha.sub (by kernel_rfl)⟩) ?_
          clear hm
          intro s5123 x5124 hm hout5125 a5126 w5127 ⟨p5133, c5134, sg5135, sg5136, ho5137, M5128, hS5129⟩
          refine G_use hS5129 ?_
          refine G_seq ?_
          refine G_seq ?_
          refine G_region ?_
          refine W_run 2 [(0, .slice p4510 x4508.length c4511), (2, .int .i64 s5123.1), (8, .slice p5133 s5123.2.length c5134), (41, .bool (decide (s5123.1 > 0)))] w5127 (by kernel_rfl) ?_
          refine W_nil ?_
          refine N_then ?_
          rcases gx_bif hm with ⟨hc5146, hm⟩ | ⟨hc5146, hm⟩
          · refine G_cond_t (b := (decide (s5123.1 > 0))) hc5146 (by kernel_rfl) ?_
            refine G_skip ?_
            refine N_then ?_
            refine G_seq ?_
            refine G_block ?_
            refine G_seq ?_
            refine G_region ?_
            refine W_run 2 [(0, .slice p4510 x4508.length c4511), (2, .int .i64 s5123.1), (8, .slice p5133 s5123.2.length c5134), (10, .int .i64 (-1)), (11, .int .i64 1)] w5127 (by kernel_rfl) ?_
            refine W_nil ?_
            refine N_then ?_
            refine G_seq ?_
            refine G_seq ?_
            refine G_region ?_
            refine W_run 1 [(0, .slice p4510 x4508.length c4511), (2, .int .i64 s5123.1), (8, .slice p5133 s5123.2.length c5134), (10, .int .i64 (-1)), (11, .int .i64 1), (12, .int .i64 0)] w5127 (by kernel_rfl) ?_
            refine W_nil ?_
            refine N_then ?_
            obtain ⟨out5218, hw5219, hmo5220⟩ := gx_bind hm
            refine G_meet (fun a w' => Mem [] w w' [sg5135, sg5136] ∧ Sat Try.f30.ntmps [(0, .slice p4510 x4508.length c4511), (2, .int .i64 s5123.1), (8, .slice p5133 s5123.2.length c5134), (10, .int .i64 out5218)] a) ?_ ?_
            · refine G_block ?_
              refine G_while (σ := Int × Int × Int) (ρ := Int) (fun s5211 a w' => Mem [] w w' [sg5135, sg5136] ∧ Sat Try.f30.ntmps [(0, .slice p4510 x4508.length c4511), (2, .int .i64 s5123.1), (8, .slice p5133 s5123.2.length c5134), (10, .int .i64 s5211.1), (11, .int .i64 s5211.2.1), (12, .int .i64 s5211.2.2)] a) hw5219 (fun a ha => ⟨M5128.pick [0, 1] (by kernel_rfl), ha.sub (by kernel_rfl)⟩) ?_
              clear hm
              intro s5211 x5212 hm hout5213 a5214 w5215 ⟨M5216, hS5217⟩
              refine G_use hS5217 ?_
              refine G_seq ?_
              refine G_seq ?_
              refine G_region ?_
              refine W_run 4 [(0, .slice p4510 x4508.length c4511), (2, .int .i64 s5123.1), (8, .slice p5133 s5123.2.length c5134), (10, .int .i64 s5211.1), (11, .int .i64 s5211.2.1), (12, .int .i64 s5211.2.2), (47, .bool (decide (s5211.2.2 < (s5123.2.length : Int))))] w5215 (by kernel_rfl) ?_
              refine W_nil ?_
              refine N_then ?_
              rcases gx_bif hm with ⟨hc5222, hm⟩ | ⟨hc5222, hm⟩
              · refine G_cond_t (b := (decide (s5211.2.2 < (s5123.2.length : Int)))) hc5222 (by kernel_rfl) ?_
                refine G_skip ?_
                refine N_then ?_
                refine G_seq ?_
                refine G_block ?_
                refine G_seq ?_
                refine G_quiet (by kernel_rfl) (by kernel_rfl) M5216 ?_
                refine Z_runs [.slice p4510 x4508.length c4511, .slice p5133 s5123.2.length c5134, .int .i64 s5211.2.2] [(0, .slice p4510 x4508.length c4511), (2, .int .i64 s5123.1), (8, .slice p5133 s5123.2.length c5134), (10, .int .i64 s5211.1), (11, .int .i64 s5211.2.1), (12, .int .i64 s5211.2.2), (50, .slice p4510 x4508.length c4511), (51, .slice p5133 s5123.2.length c5134), (52, .int .i64 s5211.2.2)] (fun w_ => by kernel_rfl) (by kernel_rfl) ?_
                obtain ⟨y5223, hy5223, hm⟩ := gx_bind hm
                obtain ⟨zs5224, hz5225, hr5226, hi5227⟩ := id ho5137
                obtain ⟨g5228, hg5229⟩ := gxIdx_fst hz5225 hy5223
                refine Z_val (elemP p5133 (s5211.2.2.toNat * 3)) (by kernel_rfl) (fun w_ M_ => (E_index (E := deepBalloon.E) _ _ _ s5123.2.length c5134 .i64 s5211.2.2 3 (y := (y5223, g5228)) rfl (by kernel_rfl) (by kernel_rfl) (by kernel_rfl) (hr5226.rd M_ 0 (by kernel_rfl)) (len_fst hz5225) hg5229)) ?_
                refine Z_val (elemP p5133 (s5211.2.2.toNat * 3 + 0)) (by kernel_rfl) (fun w_ M_ => (E_fieldE (E := deepBalloon.E) _ _ 0 (s5211.2.2.toNat * 3) 0 rfl (by kernel_rfl) (by kernel_rfl) (hr5226.rd M_ 0 (by kernel_rfl)) hg5229)) ?_
                refine Z_val (.int .i64 y5223.Guest) (by kernel_rfl) (fun w_ M_ => (E_loadE (E := deepBalloon.E) _ _ false 1 s5211.2.2 0 (s5211.2.2.toNat * 3 + 0) (y5223, g5228) (.int .i64 y5223.Guest) rfl (by kernel_rfl) (by kernel_rfl) (by kernel_rfl) (hr5226.rd M_ 0 (by kernel_rfl)) hg5229 rfl)) ?_
                obtain ⟨r5231, hr5231, hm⟩ := gx_bind hm
                refine Z_call 65 #[.slice p4510 x4508.length c4511, .int .i64 y5223.Guest] (.int .i64 r5231) (by kernel_rfl) (fun w_ => by kernel_rfl) (fun w_ M_ => (c_s_l18Count w_ x4508 p4510 c4511 (h4512.mem0 M_) y5223.Guest hr5231).mono fun e w2_ h_ => ⟨h_.1, M_.call0 h_.2⟩) ?_
                refine Z_runs [.slice p5133 s5123.2.length c5134, .int .i64 s5211.2.2] [(0, .slice p4510 x4508.length c4511), (2, .int .i64 s5123.1), (8, .slice p5133 s5123.2.length c5134), (10, .int .i64 s5211.1), (11, .int .i64 s5211.2.1), (12, .int .i64 s5211.2.2), (56, .int .i64 r5231), (57, .slice p5133 s5123.2.length c5134), (58, .int .i64 s5211.2.2)] (fun w_ => by kernel_rfl) (by kernel_rfl) ?_
                obtain ⟨y5235, hy5235, hm⟩ := gx_bind hm
                obtain ⟨g5236, hg5237⟩ := gxIdx_fst hz5225 hy5235
                refine Z_val (elemP p5133 (s5211.2.2.toNat * 3)) (by kernel_rfl) (fun w_ M_ => (E_index (E := deepBalloon.E) _ _ _ s5123.2.length c5134 .i64 s5211.2.2 3 (y := (y5235, g5236)) rfl (by kernel_rfl) (by kernel_rfl) (by kernel_rfl) (hr5226.rd M_ 0 (by kernel_rfl)) (len_fst hz5225) hg5237)) ?_
                refine Z_val (elemP p5133 (s5211.2.2.toNat * 3 + 2)) (by kernel_rfl) (fun w_ M_ => (E_fieldE (E := deepBalloon.E) _ _ 2 (s5211.2.2.toNat * 3) 2 rfl (by kernel_rfl) (by kernel_rfl) (hr5226.rd M_ 0 (by kernel_rfl)) hg5237)) ?_
                refine Z_val (.slice ((g5236 0).1) y5235.Gave.length ((g5236 0).2)) (by kernel_rfl) (fun w_ M_ => (E_loadE (E := deepBalloon.E) _ _ false 1 s5211.2.2 2 (s5211.2.2.toNat * 3 + 2) (y5235, g5236) (.slice ((g5236 0).1) y5235.Gave.length ((g5236 0).2)) rfl (by kernel_rfl) (by kernel_rfl) (by kernel_rfl) (hr5226.rd M_ 0 (by kernel_rfl)) hg5237 rfl)) ?_
                refine Z_runs [.int .i64 (y5235.Gave.length : Int), .int .i64 (w64 (r5231 + (y5235.Gave.length : Int))), .slice p5133 s5123.2.length c5134, .int .i64 s5211.2.2] [(0, .slice p4510 x4508.length c4511), (2, .int .i64 s5123.1), (8, .slice p5133 s5123.2.length c5134), (10, .int .i64 s5211.1), (11, .int .i64 s5211.2.1), (12, .int .i64 s5211.2.2), (63, .int .i64 (w64 (r5231 + (y5235.Gave.length : Int)))), (64, .slice p5133 s5123.2.length c5134), (65, .int .i64 s5211.2.2)] (fun w_ => by kernel_rfl) (by kernel_rfl) ?_
                obtain ⟨y5239, hy5239, hm⟩ := gx_bind hm
                obtain ⟨g5240, hg5241⟩ := gxIdx_fst hz5225 hy5239
                refine Z_val (elemP p5133 (s5211.2.2.toNat * 3)) (by kernel_rfl) (fun w_ M_ => (E_index (E := deepBalloon.E) _ _ _ s5123.2.length c5134 .i64 s5211.2.2 3 (y := (y5239, g5240)) rfl (by kernel_rfl) (by kernel_rfl) (by kernel_rfl) (hr5226.rd M_ 0 (by kernel_rfl)) (len_fst hz5225) hg5241)) ?_
                refine Z_val (elemP p5133 (s5211.2.2.toNat * 3 + 1)) (by kernel_rfl) (fun w_ M_ => (E_fieldE (E := deepBalloon.E) _ _ 1 (s5211.2.2.toNat * 3) 1 rfl (by kernel_rfl) (by kernel_rfl) (hr5226.rd M_ 0 (by kernel_rfl)) hg5241)) ?_
                refine Z_val (.int .i64 y5239.Goal) (by kernel_rfl) (fun w_ M_ => (E_loadE (E := deepBalloon.E) _ _ false 1 s5211.2.2 1 (s5211.2.2.toNat * 3 + 1) (y5239, g5240) (.int .i64 y5239.Goal) rfl (by kernel_rfl) (by kernel_rfl) (by kernel_rfl) (hr5226.rd M_ 0 (by kernel_rfl)) hg5241 rfl)) ?_
                refine Z_runs [.int .i64 (w64 ((w64 (r5231 + (y5235.Gave.length : Int))) - y5239.Goal)), .int .i64 (w64 ((w64 (r5231 + (y5235.Gave.length : Int))) - y5239.Goal))] [(0, .slice p4510 x4508.length c4511), (2, .int .i64 s5123.1), (8, .slice p5133 s5123.2.length c5134), (10, .int .i64 s5211.1), (11, .int .i64 s5211.2.1), (12, .int .i64 s5211.2.2), (13, .int .i64 (w64 ((w64 (r5231 + (y5235.Gave.length : Int))) - y5239.Goal)))] (fun w_ => by kernel_rfl) (by kernel_rfl) ?_
                refine Z_end fun w5243 M5244 => ?_
                refine N_then ?_
                refine G_seq ?_
                refine G_region ?_
                refine W_run 3 [(0, .slice p4510 x4508.length c4511), (2, .int .i64 s5123.1), (8, .slice p5133 s5123.2.length c5134), (10, .int .i64 s5211.1), (11, .int .i64 s5211.2.1), (12, .int .i64 s5211.2.2), (13, .int .i64 (w64 ((w64 (r5231 + (y5235.Gave.length : Int))) - y5239.Goal))), (72, .bool (decide ((w64 ((w64 (r5231 + (y5235.Gave.length : Int))) - y5239.Goal)) > s5211.2.1)))] w5243 (by kernel_rfl) ?_
                refine W_nil ?_
                refine N_then ?_
                obtain ⟨o5246, ho5247, hm5248⟩ := gx_bind hm
                refine G_meet (fun a w' => Mem [] w w' [sg5135, sg5136] ∧ Sat Try.f30.ntmps [(0, .slice p4510 x4508.length c4511), (2, .int .i64 s5123.1), (8, .slice p5133 s5123.2.length c5134), (10, .int .i64 o5246.1), (11, .int .i64 o5246.2), (12, .int .i64 s5211.2.2)] a) ?_ ?_
                · have hm := ho5247
                  rcases gx_bif hm with ⟨hc5249, hm⟩ | ⟨hc5249, hm⟩
                  · refine G_cond_t (b := (decide ((w64 ((w64 (r5231 + (y5235.Gave.length : Int))) - y5239.Goal)) > s5211.2.1))) hc5249 (by kernel_rfl) ?_
                    refine G_seq ?_
                    refine G_region ?_
                    refine W_run 2 [(0, .slice p4510 x4508.length c4511), (2, .int .i64 s5123.1), (8, .slice p5133 s5123.2.length c5134), (10, .int .i64 s5211.2.2), (12, .int .i64 s5211.2.2), (13, .int .i64 (w64 ((w64 (r5231 + (y5235.Gave.length : Int))) - y5239.Goal)))] w5243 (by kernel_rfl) ?_
                    refine W_nil ?_
                    refine N_then ?_
                    refine G_region ?_
                    refine W_run 2 [(0, .slice p4510 x4508.length c4511), (2, .int .i64 s5123.1), (8, .slice p5133 s5123.2.length c5134), (10, .int .i64 s5211.2.2), (11, .int .i64 (w64 ((w64 (r5231 + (y5235.Gave.length : Int))) - y5239.Goal))), (12, .int .i64 s5211.2.2)] w5243 (by kernel_rfl) ?_
                    refine W_nil ?_
                    obtain rfl := Option.some.inj hm
                    exact N_meet fun a ha => ⟨M5244.pick [0, 1] (by kernel_rfl), ha.sub (by kernel_rfl)⟩
                  · refine G_cond_f (b := (decide ((w64 ((w64 (r5231 + (y5235.Gave.length : Int))) - y5239.Goal)) > s5211.2.1))) hc5249 (by kernel_rfl) ?_
                    refine G_skip ?_
                    obtain rfl := Option.some.inj hm
                    exact N_meet fun a ha => ⟨M5244.pick [0, 1] (by kernel_rfl), ha.sub (by kernel_rfl)⟩
                · intro a5252 w5250 ⟨M5251, hS5253⟩
                  refine N_use hS5253 ?_
                  have hm := hm5248
                  refine N_block ?_
                  refine N_then ?_
                  refine G_region ?_
                  refine W_run 3 [(0, .slice p4510 x4508.length c4511), (2, .int .i64 s5123.1), (8, .slice p5133 s5123.2.length c5134), (10, .int .i64 o5246.1), (11, .int .i64 o5246.2), (12, .int .i64 (w64 (s5211.2.2 + 1)))] w5250 (by kernel_rfl) ?_
                  refine W_nil ?_
                  obtain rfl := Option.some.inj hm
                  exact N_loop fun a ha => ⟨_, rfl, M5251.pick [0, 1] (by kernel_rfl), ha.sub (by kernel_rfl)⟩
              · refine G_cond_f (b := (decide (s5211.2.2 < (s5123.2.length : Int)))) hc5222 (by kernel_rfl) ?_
                refine G_exit ?_
                refine N_then_exit ?_
                refine N_then_exit ?_
                refine N_block_eq ?_
                obtain rfl := Option.some.inj hm
                obtain rfl := hout5213 _ rfl
                exact N_meet fun a ha => ⟨M5216.pick [0, 1] (by kernel_rfl), ha.sub (by kernel_rfl)⟩
            · intro a5254 w5255 ⟨M5256, hS5257⟩
              refine N_use hS5257 ?_
              have hm := hmo5220
              refine N_then ?_
              refine G_seq ?_
              refine G_seq ?_
              refine G_region ?_
              refine W_run 2 [(0, .slice p4510 x4508.length c4511), (2, .int .i64 s5123.1), (8, .slice p5133 s5123.2.length c5134), (10, .int .i64 out5218), (76, .bool (decide (out5218 < 0)))] w5255 (by kernel_rfl) ?_
              refine W_nil ?_
              refine N_then ?_
              rcases gx_bif hm with ⟨hc5258, hm⟩ | ⟨hc5258, hm⟩
              · refine G_cond_t (b := (decide (out5218 < 0))) hc5258 (by kernel_rfl) ?_
                refine G_seq ?_
                refine G_region ?_
                have M5259 : Mem [] w w5255 [sg5135, sg5136] := M5256.pick [0, 1] (by kernel_rfl)
                have M5260 : Mem [] w w5255 [sg5135, sg5136, []] := M5259.regroup (by simp)
                refine W_litD (D := deepBalloon) [] ([] : List Balloon) rfl 0 [] 50 M5260 (by kernel_rfl) (by kernel_rfl) (by kernel_rfl) (by kernel_rfl) (by kernel_rfl) ownI_nil ?_
                intro p5261 c5262 sg5263 w5264 ho5265 M5266
                refine W_run 2 [(6, .slice p5261 ([] : List Balloon).length c5262), (7, .bool false)] w5264 (by kernel_rfl) ?_
                refine W_nil ?_
                refine N_then ?_
                refine G_ret ?_
                refine N_then_ret ?_
                refine N_block_ret ?_
                refine N_then_ret ?_
                refine N_then_ret ?_
                obtain rfl := Option.some.inj hm
                obtain rfl := hout5125 _ rfl
                have hm := hmo5132; simp only [Sum.elim_inr] at hm
                refine N_block_ret ?_
                refine N_meet_ret ?_
                refine N_then_ret ?_
                obtain rfl := Option.some.inj hm
                refine N_ret [.slice p5261 ([] : List Balloon).length c5262, .bool false] (RVs_cons (RV_tmp (by kernel_rfl)) (RVs_cons (RV_tmp (by kernel_rfl)) RVs_nil)) ?_
                exact ⟨p5261, c5262, sg5263, [], rfl, ho5265, M5266.pick [3, 2] (by kernel_rfl)⟩
              · refine G_cond_f (b := (decide (out5218 < 0))) hc5258 (by kernel_rfl) ?_
                refine G_skip ?_
                refine N_then ?_
                obtain ⟨y5270, hy5270, hm⟩ := gx_bind hm
                obtain ⟨zs5271, hz5272, hr5273, hi5274⟩ := id ho5137
                obtain ⟨g5275, hg5276⟩ := gxIdx_fst hz5272 hy5270
                obtain ⟨y5278, hy5278, hm⟩ := gx_bind hm
                obtain ⟨g5279, hg5280⟩ := gxIdx_fst hz5272 hy5278
                refine G_sub [(0, .slice p4510 x4508.length c4511), (2, .int .i64 s5123.1), (8, .slice p5133 s5123.2.length c5134), (10, .int .i64 out5218), (76, .bool (decide (out5218 < 0)))] (by kernel_rfl) ?_
                refine G_dagL 13 [[], [], [], [], [2, 3], [4], [5], [6], [], [], [8, 9], [10], [11]] [[], [], [], [], [], [], [], [], [], [], [], [], []] [[], [], [], [], [], [], [], [], [], [], [], [], []] [[], [], [], [], [], [], [], [], [], [], [], [], []] [[], [], [], [], [], [], [], [], [], [], [], [], []] [[], [], [], [], [], [], [], [], [], [], [], [], []] (fun _ => []) (fun i => ([fun f v s => v = (.slice p5133 s5123.2.length c5134 : Value) ∧ s = [], fun f v s => v = (.int .i64 out5218 : Value) ∧ s = [], fun f v s => v = (.slice p5133 s5123.2.length c5134 : Value) ∧ s = [], fun f v s => v = (.int .i64 out5218 : Value) ∧ s = [], fun f v s => v = (elemP p5133 (out5218.toNat * 3) : Value) ∧ s = [], fun f v s => v = (elemP p5133 (out5218.toNat * 3 + 1) : Value) ∧ s = [], fun f v s => v = (.int .i64 y5270.Goal : Value) ∧ s = [], fun f v s => v = (.int .i64 (w64 (y5270.Goal + 1)) : Value) ∧ s = [], fun f v s => v = (.slice p5133 s5123.2.length c5134 : Value) ∧ s = [], fun f v s => v = (.int .i64 out5218 : Value) ∧ s = [], fun f v s => v = (elemP p5133 (out5218.toNat * 3) : Value) ∧ s = [], fun f v s => v = (elemP p5133 (out5218.toNat * 3 + 2) : Value) ∧ s = [], fun f v s => v = (.slice ((g5279 0).1) y5278.Gave.length ((g5279 0).2) : Value) ∧ s = []] : List ((Nat → Value) → Value → Seg → Prop)).getD i (fun _ _ _ => False)) (fun j f v => ∃ s, (fun i => ([fun f v s => v = (.slice p5133 s5123.2.length c5134 : Value) ∧ s = [], fun f v s => v = (.int .i64 out5218 : Value) ∧ s = [], fun f v s => v = (.slice p5133 s5123.2.length c5134 : Value) ∧ s = [], fun f v s => v = (.int .i64 out5218 : Value) ∧ s = [], fun f v s => v = (elemP p5133 (out5218.toNat * 3) : Value) ∧ s = [], fun f v s => v = (elemP p5133 (out5218.toNat * 3 + 1) : Value) ∧ s = [], fun f v s => v = (.int .i64 y5270.Goal : Value) ∧ s = [], fun f v s => v = (.int .i64 (w64 (y5270.Goal + 1)) : Value) ∧ s = [], fun f v s => v = (.slice p5133 s5123.2.length c5134 : Value) ∧ s = [], fun f v s => v = (.int .i64 out5218 : Value) ∧ s = [], fun f v s => v = (elemP p5133 (out5218.toNat * 3) : Value) ∧ s = [], fun f v s => v = (elemP p5133 (out5218.toNat * 3 + 2) : Value) ∧ s = [], fun f v s => v = (.slice ((g5279 0).1) y5278.Gave.length ((g5279 0).2) : Value) ∧ s = []] : List ((Nat → Value) → Value → Seg → Prop)).getD i (fun _ _ _ => False)) j f v s) [] [0, 1, 7, 12] [] (fun _ _ _ s h => ⟨s, h⟩) (by kernel_rfl) (by kernel_rfl) (M5256.preNil 13) (by kernel_rfl) (by kernel_rfl) (by kernel_rfl) (by kernel_rfl) (allOb_cons ?_ (allOb_cons ?_ (allOb_cons ?_ (allOb_cons ?_ (allOb_cons ?_ (allOb_cons ?_ (allOb_cons ?_ (allOb_cons ?_ (allOb_cons ?_ (allOb_cons ?_ (allOb_cons ?_ (allOb_cons ?_ (allOb_cons ?_ allOb_nil))))))))))))) ?_
                · intro g5268 f5269
                  intro R w5282 M5283
                  refine W_run 1 [(78, .slice p5133 s5123.2.length c5134)] w5282 (by kernel_rfl) ?_
                  exact W_nil (ob_end (.slice p5133 s5123.2.length c5134) [] rfl (by kernel_rfl) ⟨by kernel_rfl, rfl⟩ M5283)
                · intro g5268 f5269
                  intro R w5286 M5287
                  refine W_run 1 [(79, .int .i64 out5218)] w5286 (by kernel_rfl) ?_
                  exact W_nil (ob_end (.int .i64 out5218) [] rfl (by kernel_rfl) ⟨by kernel_rfl, rfl⟩ M5287)
                · intro g5268 f5269
                  intro R w5290 M5291
                  refine W_run 1 [(80, .slice p5133 s5123.2.length c5134)] w5290 (by kernel_rfl) ?_
                  exact W_nil (ob_end (.slice p5133 s5123.2.length c5134) [] rfl (by kernel_rfl) ⟨by kernel_rfl, rfl⟩ M5291)
                · intro g5268 f5269
                  intro R w5294 M5295
                  refine W_run 1 [(81, .int .i64 out5218)] w5294 (by kernel_rfl) ?_
                  exact W_nil (ob_end (.int .i64 out5218) [] rfl (by kernel_rfl) ⟨by kernel_rfl, rfl⟩ M5295)
                · intro g5268 f5269
                  intro v2_ hb2_
                  obtain ⟨rfl, _⟩ := hb2_
                  intro v3_ hb3_
                  obtain ⟨rfl, _⟩ := hb3_
                  intro R w5298 M5299
                  refine W_val (elemP p5133 (out5218.toNat * 3)) w5298 (by kernel_rfl) (E_index (E := deepBalloon.E) _ _ _ s5123.2.length c5134 .i64 out5218 3 (y := (y5270, g5275)) rfl (by kernel_rfl) (by kernel_rfl) (by kernel_rfl) (hr5273.rd M5299 0 (by kernel_rfl)) (len_fst hz5272) hg5276) ?_
                  exact W_nil (ob_end (elemP p5133 (out5218.toNat * 3)) [] rfl (by kernel_rfl) ⟨by kernel_rfl, rfl⟩ M5299)
                · intro g5268 f5269
                  intro v4_ hb4_
                  obtain ⟨rfl, _⟩ := hb4_
                  intro R w5302 M5303
                  refine W_val (elemP p5133 (out5218.toNat * 3 + 1)) w5302 (by kernel_rfl) (E_fieldE (E := deepBalloon.E) _ _ 1 (out5218.toNat * 3) 1 rfl (by kernel_rfl) (by kernel_rfl) (hr5273.rd M5303 0 (by kernel_rfl)) hg5276) ?_
                  exact W_nil (ob_end (elemP p5133 (out5218.toNat * 3 + 1)) [] rfl (by kernel_rfl) ⟨by kernel_rfl, rfl⟩ M5303)
                · intro g5268 f5269
                  intro v5_ hb5_
                  obtain ⟨rfl, _⟩ := hb5_
                  intro R w5306 M5307
                  refine W_val (.int .i64 y5270.Goal) w5306 (by kernel_rfl) (E_loadE (E := deepBalloon.E) _ _ false 1 out5218 1 (out5218.toNat * 3 + 1) (y5270, g5275) (.int .i64 y5270.Goal) rfl (by kernel_rfl) (by kernel_rfl) (by kernel_rfl) (hr5273.rd M5307 0 (by kernel_rfl)) hg5276 rfl) ?_
                  exact W_nil (ob_end (.int .i64 y5270.Goal) [] rfl (by kernel_rfl) ⟨by kernel_rfl, rfl⟩ M5307)
                · intro g5268 f5269
                  intro v6_ hb6_
                  obtain ⟨rfl, _⟩ := hb6_
                  intro R w5310 M5311
                  refine W_run 1 [(85, .int .i64 (w64 (y5270.Goal + 1)))] w5310 (by kernel_rfl) ?_
                  exact W_nil (ob_end (.int .i64 (w64 (y5270.Goal + 1))) [] rfl (by kernel_rfl) ⟨by kernel_rfl, rfl⟩ M5311)
                · intro g5268 f5269
                  intro R w5314 M5315
                  refine W_run 1 [(86, .slice p5133 s5123.2.length c5134)] w5314 (by kernel_rfl) ?_
                  exact W_nil (ob_end (.slice p5133 s5123.2.length c5134) [] rfl (by kernel_rfl) ⟨by kernel_rfl, rfl⟩ M5315)
                · intro g5268 f5269
                  intro R w5318 M5319
                  refine W_run 1 [(87, .int .i64 out5218)] w5318 (by kernel_rfl) ?_
                  exact W_nil (ob_end (.int .i64 out5218) [] rfl (by kernel_rfl) ⟨by kernel_rfl, rfl⟩ M5319)
                · intro g5268 f5269
                  intro v8_ hb8_
                  obtain ⟨rfl, _⟩ := hb8_
                  intro v9_ hb9_
                  obtain ⟨rfl, _⟩ := hb9_
                  intro R w5322 M5323
                  refine W_val (elemP p5133 (out5218.toNat * 3)) w5322 (by kernel_rfl) (E_index (E := deepBalloon.E) _ _ _ s5123.2.length c5134 .i64 out5218 3 (y := (y5278, g5279)) rfl (by kernel_rfl) (by kernel_rfl) (by kernel_rfl) (hr5273.rd M5323 0 (by kernel_rfl)) (len_fst hz5272) hg5280) ?_
                  exact W_nil (ob_end (elemP p5133 (out5218.toNat * 3)) [] rfl (by kernel_rfl) ⟨by kernel_rfl, rfl⟩ M5323)
                · intro g5268 f5269
                  intro v10_ hb10_
                  obtain ⟨rfl, _⟩ := hb10_
                  intro R w5326 M5327
                  refine W_val (elemP p5133 (out5218.toNat * 3 + 2)) w5326 (by kernel_rfl) (E_fieldE (E := deepBalloon.E) _ _ 2 (out5218.toNat * 3) 2 rfl (by kernel_rfl) (by kernel_rfl) (hr5273.rd M5327 0 (by kernel_rfl)) hg5280) ?_
                  exact W_nil (ob_end (elemP p5133 (out5218.toNat * 3 + 2)) [] rfl (by kernel_rfl) ⟨by kernel_rfl, rfl⟩ M5327)
                · intro g5268 f5269
                  intro v11_ hb11_
                  obtain ⟨rfl, _⟩ := hb11_
                  intro R w5330 M5331
                  refine W_val (.slice ((g5279 0).1) y5278.Gave.length ((g5279 0).2)) w5330 (by kernel_rfl) (E_loadE (E := deepBalloon.E) _ _ false 1 out5218 2 (out5218.toNat * 3 + 2) (y5278, g5279) (.slice ((g5279 0).1) y5278.Gave.length ((g5279 0).2)) rfl (by kernel_rfl) (by kernel_rfl) (by kernel_rfl) (hr5273.rd M5331 0 (by kernel_rfl)) hg5280 rfl) ?_
                  exact W_nil (ob_end (.slice ((g5279 0).1) y5278.Gave.length ((g5279 0).2)) [] rfl (by kernel_rfl) ⟨by kernel_rfl, rfl⟩ M5331)
                · intro g5268 f5269
                  intro v0_ hb0_
                  obtain ⟨rfl, _⟩ := hb0_
                  intro v1_ hb1_
                  obtain ⟨rfl, _⟩ := hb1_
                  intro v7_ hb7_
                  obtain ⟨rfl, _⟩ := hb7_
                  intro v12_ hb12_
                  obtain ⟨rfl, _⟩ := hb12_
                  intro w5334 M5335
                  have M5336 : Mem [] w w5334 [sg5135, sg5136] := M5335
                  obtain ⟨r5337, hr5337, hm⟩ := gx_bind hm
                  refine W_call 58 #[.slice p5133 s5123.2.length c5134, .int .i64 out5218, .int .i64 (w64 (y5270.Goal + 1)), .slice ((g5279 0).1) y5278.Gave.length ((g5279 0).2)] (by kernel_rfl) (by kernel_rfl) ?_
                  refine (c_s_l18With w5334 s5123.2 p5133 c5134 (ho5137.rd M5336 0 (by kernel_rfl) 1 (by kernel_rfl)) out5218 (w64 (y5270.Goal + 1)) y5278.Gave ((g5279 0).1) ((g5279 0).2) ((hi5274.rd M5336 1 (by kernel_rfl)).at_ hg5280 0 ⟨Int, encI, y5278.Gave, (g5279 0).1, (g5279 0).2⟩ (by kernel_rfl)) hr5337).mono ?_
                  rintro e_ w5344 ⟨p5339, c5340, sg5341, sg5342, rfl, ho5343, K5345⟩
                  have M5346 := M5336.call K5345
                  refine ⟨_, rfl, ?_⟩
                  refine W_run 1 [(0, .slice p4510 x4508.length c4511), (2, .int .i64 s5123.1), (8, .slice p5339 r5337.length c5340)] w5344 (by kernel_rfl) ?_
                  refine W_nil ?_
                  refine N_block ?_
                  refine N_then ?_
                  refine G_region ?_
                  refine W_run 3 [(0, .slice p4510 x4508.length c4511), (2, .int .i64 (w64 (s5123.1 - 1))), (8, .slice p5339 r5337.length c5340)] w5344 (by kernel_rfl) ?_
                  refine W_nil ?_
                  obtain rfl := Option.some.inj hm
                  exact N_loop fun a ha => ⟨_, rfl, p5339, c5340, sg5341, sg5342, ho5343, M5346.pick [2, 3] (by kernel_rfl), ha.sub (by kernel_rfl)⟩
          · refine G_cond_f (b := (decide (s5123.1 > 0))) hc5146 (by kernel_rfl) ?_
            refine G_exit ?_
            refine N_then_exit ?_
            refine N_then_exit ?_
            refine N_block_eq ?_
            obtain rfl := Option.some.inj hm
            obtain rfl := hout5125 _ rfl
            exact N_meet fun a ha => ⟨_, p5133, c5134, sg5135, sg5136, ho5137, rfl, M5128.pick [0, 1] (by kernel_rfl), ha.sub (by kernel_rfl)⟩
        · intro a5347 w5348 ⟨o5139, p5140, c5141, sg5142, sg5143, ho5144, hout_, M5349, hS5350⟩
          refine N_use hS5350 ?_
          subst hout_
          have hm := hmo5132; simp only [Sum.elim_inl] at hm
          refine N_then ?_
          refine G_seq ?_
          refine G_region ?_
          refine W_run 3 [(6, .slice p5140 o5139.length c5141), (7, .bool true)] w5348 (by kernel_rfl) ?_
          refine W_nil ?_
          refine N_then ?_
          refine G_ret ?_
          obtain rfl := Option.some.inj hm
          refine N_ret [.slice p5140 o5139.length c5141, .bool true] (RVs_cons (RV_tmp (by kernel_rfl)) (RVs_cons (RV_tmp (by kernel_rfl)) RVs_nil)) ?_
          exact ⟨p5140, c5141, sg5142, sg5143, rfl, ho5144, M5349.pick [0, 1] (by kernel_rfl)⟩
end Go.Proofs.Ytlfligjpmodefaa
