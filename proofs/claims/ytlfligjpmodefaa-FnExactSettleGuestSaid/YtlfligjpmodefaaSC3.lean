/- The walks, printed by program: whenever the model gives r, the call returns r. Part 3. -/
import Derived.Test.YtlfligjpmodefaaSM
import Derived.Test.YtlfligjpmodefaaProg
import Derived.Test.YtlfligjpmodefaaSh
import Derived.Test.YtlfligjpmodefaaSC2
set_option linter.unusedVariables false
set_option maxRecDepth 100000
set_option maxHeartbeats 4000000
namespace Go.Proofs.Ytlfligjpmodefaa
open Go.Gx
theorem c_l_FnExactSettleGuest (w : World) (x1 : List Int) (p3 : Option Addr) (c4 : Nat) (h5 : rdS Gx.encI w x1 p3 c4) (x6 : List Balloon) (p8 : Option Addr) (c9 : Nat) (h10 : rdD deepBalloon w x6 p8 c9) (x11 : Int) {r : Bool} (hm : M.l_FnExactSettleGuest x1 x6 x11 = some r) :
    Calls Try.prog 10 #[.slice p3 x1.length c4, .slice p8 x6.length c9, .int .i64 x11] w fun e w' => e = .returned (.bool r) ∧ Mem [] w w' [] := by
  unfold M.l_FnExactSettleGuest at hm
  refine C_enter Try.func10 rfl (by kernel_rfl) ?_
  have M0 := Mem.refl [] w
  refine G_seq ?_
  refine G_region ?_
  refine W_run 1 [(0, .slice p3 x1.length c4), (1, .slice p8 x6.length c9), (2, .int .i64 x11)] w (by kernel_rfl) ?_
  refine W_nil ?_
  refine N_then ?_
  refine G_seq ?_
  refine G_seq ?_
  refine G_region ?_
  refine W_run 3 [(0, .slice p3 x1.length c4), (1, .slice p8 x6.length c9), (2, .int .i64 x11), (27, .bool (decide ((x1.length : Int) > 1048576)))] w (by kernel_rfl) ?_
  refine W_nil ?_
  refine N_then ?_
  rcases gx_bif hm with ⟨hc12, hm⟩ | ⟨hc12, hm⟩
  · refine G_cond_t (b := (decide ((x1.length : Int) > 1048576))) hc12 (by kernel_rfl) ?_
    refine G_seq ?_
    refine G_region ?_
    refine W_run 1 [(6, .bool true)] w (by kernel_rfl) ?_
    refine W_nil ?_
    refine N_then ?_
    refine G_ret ?_
    refine N_then_ret ?_
    obtain rfl := Option.some.inj hm
    refine N_ret [.bool true] (RVs_cons (RV_tmp (by kernel_rfl)) RVs_nil) ?_
    exact ⟨rfl, M0.pick [] (by kernel_rfl)⟩
  refine G_cond_f (b := (decide ((x1.length : Int) > 1048576))) hc12 (by kernel_rfl) ?_
  refine G_skip ?_
  refine N_then ?_
  refine G_seq ?_
  refine G_region ?_
  refine W_run 1 [(0, .slice p3 x1.length c4), (1, .slice p8 x6.length c9), (2, .int .i64 x11), (7, .int .i64 1048576)] w (by kernel_rfl) ?_
  refine W_nil ?_
  refine N_then ?_
  refine G_seq ?_
  refine G_region ?_
  refine W_run 2 [(0, .slice p3 x1.length c4), (1, .slice p8 x6.length c9), (2, .int .i64 x11), (7, .int .i64 1048576), (28, .slice p8 x6.length c9), (29, .int .i64 1048576)] w (by kernel_rfl) ?_
  obtain ⟨r99, hr99, hm⟩ := gx_bind hm
  refine W_call 13 #[.slice p8 x6.length c9, .int .i64 1048576] (by kernel_rfl) (by kernel_rfl) ?_
  refine (c_l_szBalloonS w x6 p8 c9 (h10.mem0 M0) 1048576 hr99).mono ?_
  rintro e_ w100 ⟨rfl, K101⟩
  have M102 := M0.call0 K101
  refine ⟨_, rfl, ?_⟩
  refine W_run 1 [(0, .slice p3 x1.length c4), (1, .slice p8 x6.length c9), (2, .int .i64 x11), (7, .int .i64 r99)] w100 (by kernel_rfl) ?_
  refine W_nil ?_
  refine N_then ?_
  refine G_seq ?_
  refine G_seq ?_
  refine G_region ?_
  refine W_run 2 [(0, .slice p3 x1.length c4), (1, .slice p8 x6.length c9), (2, .int .i64 x11), (32, .bool (decide (r99 < 0)))] w100 (by kernel_rfl) ?_
  refine W_nil ?_
  refine N_then ?_
  rcases gx_bif hm with ⟨hc103, hm⟩ | ⟨hc103, hm⟩
  · refine G_cond_t (b := (decide (r99 < 0))) hc103 (by kernel_rfl) ?_
    refine G_seq ?_
    refine G_region ?_
    refine W_run 1 [(6, .bool true)] w100 (by kernel_rfl) ?_
    refine W_nil ?_
    refine N_then ?_
    refine G_ret ?_
    refine N_then_ret ?_
    obtain rfl := Option.some.inj hm
    refine N_ret [.bool true] (RVs_cons (RV_tmp (by kernel_rfl)) RVs_nil) ?_
    exact ⟨rfl, M102.pick [] (by kernel_rfl)⟩
  refine G_cond_f (b := (decide (r99 < 0))) hc103 (by kernel_rfl) ?_
  refine G_skip ?_
  refine N_then ?_
  refine G_seq ?_
  refine G_region ?_
  refine W_run 1 [(0, .slice p3 x1.length c4), (1, .slice p8 x6.length c9), (2, .int .i64 x11), (34, .slice p3 x1.length c4)] w100 (by kernel_rfl) ?_
  obtain ⟨r164, hr164, hm⟩ := gx_bind hm
  refine W_call 15 #[.slice p3 x1.length c4] (by kernel_rfl) (by kernel_rfl) ?_
  refine (c_l_toIntS w100 x1 p3 c4 (h5.mem0 M102) hr164).mono ?_
  rintro e_ w170 ⟨p166, c167, sg168, rfl, ho169, K171⟩
  have M172 := M102.call K171
  refine ⟨_, rfl, ?_⟩
  refine W_run 1 [(0, .slice p3 x1.length c4), (1, .slice p8 x6.length c9), (2, .int .i64 x11), (35, .slice p166 r164.length c167), (36, .slice p8 x6.length c9)] w170 (by kernel_rfl) ?_
  obtain ⟨r382, hr382, hm⟩ := gx_bind hm
  refine W_call 16 #[.slice p8 x6.length c9] (by kernel_rfl) (by kernel_rfl) ?_
  refine (c_l_toBalloonS w170 x6 p8 c9 (h10.mem0 M172) hr382).mono ?_
  rintro e_ w389 ⟨p384, c385, sg386, sg387, rfl, ho388, K390⟩
  have M391 := M172.call K390
  refine ⟨_, rfl, ?_⟩
  refine W_run 1 [(0, .slice p3 x1.length c4), (1, .slice p8 x6.length c9), (2, .int .i64 x11), (35, .slice p166 r164.length c167), (37, .slice p384 r382.length c385), (38, .int .i64 x11)] w389 (by kernel_rfl) ?_
  obtain ⟨r2607, hr2607, hm⟩ := gx_bind hm
  refine W_call 36 #[.slice p166 r164.length c167, .slice p384 r382.length c385, .int .i64 x11] (by kernel_rfl) (by kernel_rfl) ?_
  refine (c_s_SettleGuest w389 r164 p166 c167 (ho169.rd M391 0 (by kernel_rfl)) r382 p384 c385 (ho388.rd M391 1 (by kernel_rfl) 2 (by kernel_rfl)) x11 hr2607).mono ?_
  rintro e_ w2619 ⟨p2609, c2610, sg2611, p2614, c2615, sg2616, sg2617, rfl, ho2612, ho2618, K2620⟩
  have M2621 := M391.call K2620
  refine ⟨_, rfl, ?_⟩
  refine W_run 9 [(0, .slice p3 x1.length c4), (1, .slice p8 x6.length c9), (2, .int .i64 x11), (8, .slice p2609 r2607.1.length c2610), (9, .slice p2614 r2607.2.1.length c2615), (10, .int .i64 r2607.2.2.1), (11, .bool r2607.2.2.2)] w2619 (by kernel_rfl) ?_
  refine W_nil ?_
  refine N_then ?_
  refine G_seq ?_
  refine G_region ?_
  refine W_run 1 [(0, .slice p3 x1.length c4), (1, .slice p8 x6.length c9), (2, .int .i64 x11), (8, .slice p2609 r2607.1.length c2610), (9, .slice p2614 r2607.2.1.length c2615), (10, .int .i64 r2607.2.2.1), (11, .bool r2607.2.2.2), (44, .slice p3 x1.length c4)] w2619 (by kernel_rfl) ?_
  obtain ⟨r2622, hr2622, hm⟩ := gx_bind hm
  refine W_call 15 #[.slice p3 x1.length c4] (by kernel_rfl) (by kernel_rfl) ?_
  refine (c_l_toIntS w2619 x1 p3 c4 (h5.mem0 M2621) hr2622).mono ?_
  rintro e_ w2628 ⟨p2624, c2625, sg2626, rfl, ho2627, K2629⟩
  have M2630 := M2621.call K2629
  refine ⟨_, rfl, ?_⟩
  refine W_run 1 [(0, .slice p3 x1.length c4), (1, .slice p8 x6.length c9), (2, .int .i64 x11), (8, .slice p2609 r2607.1.length c2610), (9, .slice p2614 r2607.2.1.length c2615), (10, .int .i64 r2607.2.2.1), (11, .bool r2607.2.2.2), (12, .slice p2624 r2622.length c2625)] w2628 (by kernel_rfl) ?_
  refine W_nil ?_
  refine N_then ?_
  refine G_seq ?_
  refine G_region ?_
  refine W_run 1 [(0, .slice p3 x1.length c4), (1, .slice p8 x6.length c9), (2, .int .i64 x11), (8, .slice p2609 r2607.1.length c2610), (9, .slice p2614 r2607.2.1.length c2615), (10, .int .i64 r2607.2.2.1), (11, .bool r2607.2.2.2), (12, .slice p2624 r2622.length c2625), (46, .slice p8 x6.length c9)] w2628 (by kernel_rfl) ?_
  obtain ⟨r2631, hr2631, hm⟩ := gx_bind hm
  refine W_call 16 #[.slice p8 x6.length c9] (by kernel_rfl) (by kernel_rfl) ?_
  refine (c_l_toBalloonS w2628 x6 p8 c9 (h10.mem0 M2630) hr2631).mono ?_
  rintro e_ w2638 ⟨p2633, c2634, sg2635, sg2636, rfl, ho2637, K2639⟩
  have M2640 := M2630.call K2639
  refine ⟨_, rfl, ?_⟩
  refine W_run 1 [(0, .slice p3 x1.length c4), (1, .slice p8 x6.length c9), (2, .int .i64 x11), (8, .slice p2609 r2607.1.length c2610), (9, .slice p2614 r2607.2.1.length c2615), (10, .int .i64 r2607.2.2.1), (11, .bool r2607.2.2.2), (12, .slice p2624 r2622.length c2625), (13, .slice p2633 r2631.length c2634)] w2638 (by kernel_rfl) ?_
  refine W_nil ?_
  refine N_then ?_
  refine G_seq ?_
  refine G_region ?_
  refine W_run 3 [(0, .slice p3 x1.length c4), (1, .slice p8 x6.length c9), (2, .int .i64 x11), (8, .slice p2609 r2607.1.length c2610), (9, .slice p2614 r2607.2.1.length c2615), (10, .int .i64 r2607.2.2.1), (11, .bool r2607.2.2.2), (12, .slice p2624 r2622.length c2625), (13, .slice p2633 r2631.length c2634), (49, .slice p2624 r2622.length c2625), (50, .slice p2633 r2631.length c2634), (51, .int .i64 x11)] w2638 (by kernel_rfl) ?_
  obtain ⟨r4874, hr4874, hm⟩ := gx_bind hm
  refine W_call 37 #[.slice p2624 r2622.length c2625, .slice p2633 r2631.length c2634, .int .i64 x11] (by kernel_rfl) (by kernel_rfl) ?_
  refine (c_i_SettleGuest w2638 r2622 p2624 c2625 (ho2627.rd M2640 6 (by kernel_rfl)) r2631 p2633 c2634 (ho2637.rd M2640 7 (by kernel_rfl) 8 (by kernel_rfl)) x11 hr4874).mono ?_
  rintro e_ w4886 ⟨p4876, c4877, sg4878, p4881, c4882, sg4883, sg4884, rfl, ho4879, ho4885, K4887⟩
  have M4888 := M2640.call K4887
  refine ⟨_, rfl, ?_⟩
  refine W_run 9 [(0, .slice p3 x1.length c4), (1, .slice p8 x6.length c9), (2, .int .i64 x11), (8, .slice p2609 r2607.1.length c2610), (9, .slice p2614 r2607.2.1.length c2615), (10, .int .i64 r2607.2.2.1), (11, .bool r2607.2.2.2), (12, .slice p2624 r2622.length c2625), (13, .slice p2633 r2631.length c2634), (14, .slice p4876 r4874.1.length c4877), (15, .slice p4881 r4874.2.1.length c4882), (16, .int .i64 r4874.2.2.1), (17, .bool r4874.2.2.2)] w4886 (by kernel_rfl) ?_
  refine W_nil ?_
  refine N_then ?_
  refine G_seq ?_
  refine G_seq ?_
  obtain ⟨o5067, ho5068, hm5069⟩ := gx_bind hm
  refine G_meet (fun a w' => Mem [] w w' [sg2611, sg2616, sg2617, sg2626, sg2635, sg2636, sg4878, sg4883, sg4884] ∧ Sat Try.f10.ntmps [(0, .slice p3 x1.length c4), (1, .slice p8 x6.length c9), (2, .int .i64 x11), (8, .slice p2609 r2607.1.length c2610), (9, .slice p2614 r2607.2.1.length c2615), (10, .int .i64 r2607.2.2.1), (11, .bool r2607.2.2.2), (12, .slice p2624 r2622.length c2625), (13, .slice p2633 r2631.length c2634), (14, .slice p4876 r4874.1.length c4877), (15, .slice p4881 r4874.2.1.length c4882), (16, .int .i64 r4874.2.2.1), (17, .bool r4874.2.2.2), (76, .bool o5067)] a) ?_ ?_
  · have hm := ho5068
    refine G_region ?_
    refine W_run 2 [(0, .slice p3 x1.length c4), (1, .slice p8 x6.length c9), (2, .int .i64 x11), (8, .slice p2609 r2607.1.length c2610), (9, .slice p2614 r2607.2.1.length c2615), (10, .int .i64 r2607.2.2.1), (11, .bool r2607.2.2.2), (12, .slice p2624 r2622.length c2625), (13, .slice p2633 r2631.length c2634), (14, .slice p4876 r4874.1.length c4877), (15, .slice p4881 r4874.2.1.length c4882), (16, .int .i64 r4874.2.2.1), (17, .bool r4874.2.2.2), (57, .slice p4876 r4874.1.length c4877), (58, .slice p2609 r2607.1.length c2610)] w4886 (by kernel_rfl) ?_
    obtain ⟨r5070, hr5070, hm⟩ := gx_bind hm
    refine W_call 18 #[.slice p4876 r4874.1.length c4877, .slice p2609 r2607.1.length c2610] (by kernel_rfl) (by kernel_rfl) ?_
    refine (c_l_eqIntS w4886 r4874.1 p4876 c4877 (ho4879.rd M4888 9 (by kernel_rfl)) r2607.1 p2609 c2610 (ho2612.rd M4888 3 (by kernel_rfl)) hr5070).mono ?_
    rintro e_ w5071 ⟨rfl, K5072⟩
    have M5073 := M4888.call0 K5072
    refine ⟨_, rfl, ?_⟩
    refine W_run 2 [(0, .slice p3 x1.length c4), (1, .slice p8 x6.length c9), (2, .int .i64 x11), (8, .slice p2609 r2607.1.length c2610), (9, .slice p2614 r2607.2.1.length c2615), (10, .int .i64 r2607.2.2.1), (11, .bool r2607.2.2.2), (12, .slice p2624 r2622.length c2625), (13, .slice p2633 r2631.length c2634), (14, .slice p4876 r4874.1.length c4877), (15, .slice p4881 r4874.2.1.length c4882), (16, .int .i64 r4874.2.2.1), (17, .bool r4874.2.2.2), (61, .bool (!r5070))] w5071 (by kernel_rfl) ?_
    rcases gx_bif hm with ⟨hc5074, hm⟩ | ⟨hc5074, hm⟩
    · refine W_known 61 true (by kernel_rfl) hc5074 ?_
      refine W_run 15 [(0, .slice p3 x1.length c4), (1, .slice p8 x6.length c9), (2, .int .i64 x11), (8, .slice p2609 r2607.1.length c2610), (9, .slice p2614 r2607.2.1.length c2615), (10, .int .i64 r2607.2.2.1), (11, .bool r2607.2.2.2), (12, .slice p2624 r2622.length c2625), (13, .slice p2633 r2631.length c2634), (14, .slice p4876 r4874.1.length c4877), (15, .slice p4881 r4874.2.1.length c4882), (16, .int .i64 r4874.2.2.1), (17, .bool r4874.2.2.2), (76, .bool true)] w5071 (by kernel_rfl) ?_
      refine W_nil ?_
      obtain rfl := Option.some.inj hm
      exact N_meet fun a ha => ⟨M5073.pick [3, 4, 5, 6, 7, 8, 9, 10, 11] (by kernel_rfl), ha.sub (by kernel_rfl)⟩
    refine W_known 61 false (by kernel_rfl) hc5074 ?_
    refine W_run 2 [(0, .slice p3 x1.length c4), (1, .slice p8 x6.length c9), (2, .int .i64 x11), (8, .slice p2609 r2607.1.length c2610), (9, .slice p2614 r2607.2.1.length c2615), (10, .int .i64 r2607.2.2.1), (11, .bool r2607.2.2.2), (12, .slice p2624 r2622.length c2625), (13, .slice p2633 r2631.length c2634), (14, .slice p4876 r4874.1.length c4877), (15, .slice p4881 r4874.2.1.length c4882), (16, .int .i64 r4874.2.2.1), (17, .bool r4874.2.2.2), (61, .bool false), (62, .slice p4881 r4874.2.1.length c4882), (63, .slice p2614 r2607.2.1.length c2615)] w5071 (by kernel_rfl) ?_
    obtain ⟨r5075, hr5075, hm⟩ := gx_bind hm
    refine W_call 19 #[.slice p4881 r4874.2.1.length c4882, .slice p2614 r2607.2.1.length c2615] (by kernel_rfl) (by kernel_rfl) ?_
    refine (c_l_eqBalloonS w5071 r4874.2.1 p4881 c4882 (ho4885.rd M5073 10 (by kernel_rfl) 11 (by kernel_rfl)) r2607.2.1 p2614 c2615 (ho2618.rd M5073 4 (by kernel_rfl) 5 (by kernel_rfl)) hr5075).mono ?_
    rintro e_ w5076 ⟨rfl, K5077⟩
    have M5078 := M5073.call0 K5077
    refine ⟨_, rfl, ?_⟩
    refine W_run 3 [(0, .slice p3 x1.length c4), (1, .slice p8 x6.length c9), (2, .int .i64 x11), (8, .slice p2609 r2607.1.length c2610), (9, .slice p2614 r2607.2.1.length c2615), (10, .int .i64 r2607.2.2.1), (11, .bool r2607.2.2.2), (12, .slice p2624 r2622.length c2625), (13, .slice p2633 r2631.length c2634), (14, .slice p4876 r4874.1.length c4877), (15, .slice p4881 r4874.2.1.length c4882), (16, .int .i64 r4874.2.2.1), (17, .bool r4874.2.2.2), (67, .bool (!r5075))] w5076 (by kernel_rfl) ?_
    rcases gx_bif hm with ⟨hc5079, hm⟩ | ⟨hc5079, hm⟩
    · refine W_known 67 true (by kernel_rfl) hc5079 ?_
      refine W_run 9 [(0, .slice p3 x1.length c4), (1, .slice p8 x6.length c9), (2, .int .i64 x11), (8, .slice p2609 r2607.1.length c2610), (9, .slice p2614 r2607.2.1.length c2615), (10, .int .i64 r2607.2.2.1), (11, .bool r2607.2.2.2), (12, .slice p2624 r2622.length c2625), (13, .slice p2633 r2631.length c2634), (14, .slice p4876 r4874.1.length c4877), (15, .slice p4881 r4874.2.1.length c4882), (16, .int .i64 r4874.2.2.1), (17, .bool r4874.2.2.2), (76, .bool true)] w5076 (by kernel_rfl) ?_
      refine W_nil ?_
      obtain rfl := Option.some.inj hm
      exact N_meet fun a ha => ⟨M5078.pick [3, 4, 5, 6, 7, 8, 9, 10, 11] (by kernel_rfl), ha.sub (by kernel_rfl)⟩
    refine W_known 67 false (by kernel_rfl) hc5079 ?_
    refine W_run 5 [(0, .slice p3 x1.length c4), (1, .slice p8 x6.length c9), (2, .int .i64 x11), (8, .slice p2609 r2607.1.length c2610), (9, .slice p2614 r2607.2.1.length c2615), (10, .int .i64 r2607.2.2.1), (11, .bool r2607.2.2.2), (12, .slice p2624 r2622.length c2625), (13, .slice p2633 r2631.length c2634), (14, .slice p4876 r4874.1.length c4877), (15, .slice p4881 r4874.2.1.length c4882), (16, .int .i64 r4874.2.2.1), (17, .bool r4874.2.2.2), (72, .bool (r4874.2.2.1 != r2607.2.2.1))] w5076 (by kernel_rfl) ?_
    rcases gx_bif hm with ⟨hc5080, hm⟩ | ⟨hc5080, hm⟩
    · refine W_known 72 true (by kernel_rfl) hc5080 ?_
      refine W_run 4 [(0, .slice p3 x1.length c4), (1, .slice p8 x6.length c9), (2, .int .i64 x11), (8, .slice p2609 r2607.1.length c2610), (9, .slice p2614 r2607.2.1.length c2615), (10, .int .i64 r2607.2.2.1), (11, .bool r2607.2.2.2), (12, .slice p2624 r2622.length c2625), (13, .slice p2633 r2631.length c2634), (14, .slice p4876 r4874.1.length c4877), (15, .slice p4881 r4874.2.1.length c4882), (16, .int .i64 r4874.2.2.1), (17, .bool r4874.2.2.2), (76, .bool true)] w5076 (by kernel_rfl) ?_
      refine W_nil ?_
      obtain rfl := Option.some.inj hm
      exact N_meet fun a ha => ⟨M5078.pick [3, 4, 5, 6, 7, 8, 9, 10, 11] (by kernel_rfl), ha.sub (by kernel_rfl)⟩
    refine W_known 72 false (by kernel_rfl) hc5080 ?_
    refine W_run 4 [(0, .slice p3 x1.length c4), (1, .slice p8 x6.length c9), (2, .int .i64 x11), (8, .slice p2609 r2607.1.length c2610), (9, .slice p2614 r2607.2.1.length c2615), (10, .int .i64 r2607.2.2.1), (11, .bool r2607.2.2.2), (12, .slice p2624 r2622.length c2625), (13, .slice p2633 r2631.length c2634), (14, .slice p4876 r4874.1.length c4877), (15, .slice p4881 r4874.2.1.length c4882), (16, .int .i64 r4874.2.2.1), (17, .bool r4874.2.2.2), (76, .bool (!(r4874.2.2.2 == r2607.2.2.2)))] w5076 (by kernel_rfl) ?_
    refine W_nil ?_
    obtain rfl := Option.some.inj hm
    exact N_meet fun a ha => ⟨M5078.pick [3, 4, 5, 6, 7, 8, 9, 10, 11] (by kernel_rfl), ha.sub (by kernel_rfl)⟩
  intro a5083 w5081 ⟨M5082, hS5084⟩
  refine N_use hS5084 ?_
  have hm := hm5069
  refine N_then ?_
  rcases gx_bif hm with ⟨hc5085, hm⟩ | ⟨hc5085, hm⟩
  · refine G_cond_t (b := o5067) hc5085 (by kernel_rfl) ?_
    refine G_seq ?_
    refine G_region ?_
    refine W_run 1 [(6, .bool false)] w5081 (by kernel_rfl) ?_
    refine W_nil ?_
    refine N_then ?_
    refine G_ret ?_
    refine N_then_ret ?_
    obtain rfl := Option.some.inj hm
    refine N_ret [.bool false] (RVs_cons (RV_tmp (by kernel_rfl)) RVs_nil) ?_
    exact ⟨rfl, M5082.pick [] (by kernel_rfl)⟩
  refine G_cond_f (b := o5067) hc5085 (by kernel_rfl) ?_
  refine G_skip ?_
  refine N_then ?_
  refine G_seq ?_
  refine G_seq ?_
  refine G_region ?_
  refine W_run 2 [(0, .slice p3 x1.length c4), (1, .slice p8 x6.length c9), (2, .int .i64 x11), (8, .slice p2609 r2607.1.length c2610), (9, .slice p2614 r2607.2.1.length c2615), (10, .int .i64 r2607.2.2.1), (11, .bool r2607.2.2.2), (12, .slice p2624 r2622.length c2625), (13, .slice p2633 r2631.length c2634), (14, .slice p4876 r4874.1.length c4877), (15, .slice p4881 r4874.2.1.length c4882), (16, .int .i64 r4874.2.2.1), (17, .bool r4874.2.2.2), (77, .slice p2624 r2622.length c2625), (78, .slice p3 x1.length c4)] w5081 (by kernel_rfl) ?_
  obtain ⟨r5086, hr5086, hm⟩ := gx_bind hm
  refine W_call 15 #[.slice p3 x1.length c4] (by kernel_rfl) (by kernel_rfl) ?_
  refine (c_l_toIntS w5081 x1 p3 c4 (h5.mem0 M5082) hr5086).mono ?_
  rintro e_ w5092 ⟨p5088, c5089, sg5090, rfl, ho5091, K5093⟩
  have M5094 := M5082.call K5093
  refine ⟨_, rfl, ?_⟩
  obtain ⟨r5095, hr5095, hm⟩ := gx_bind hm
  refine W_call 18 #[.slice p2624 r2622.length c2625, .slice p5088 r5086.length c5089] (by kernel_rfl) (by kernel_rfl) ?_
  refine (c_l_eqIntS w5092 r2622 p2624 c2625 (ho2627.rd M5094 3 (by kernel_rfl)) r5086 p5088 c5089 (ho5091.rd M5094 9 (by kernel_rfl)) hr5095).mono ?_
  rintro e_ w5096 ⟨rfl, K5097⟩
  have M5098 := M5094.call0 K5097
  refine ⟨_, rfl, ?_⟩
  refine W_run 1 [(0, .slice p3 x1.length c4), (1, .slice p8 x6.length c9), (2, .int .i64 x11), (8, .slice p2609 r2607.1.length c2610), (9, .slice p2614 r2607.2.1.length c2615), (10, .int .i64 r2607.2.2.1), (11, .bool r2607.2.2.2), (12, .slice p2624 r2622.length c2625), (13, .slice p2633 r2631.length c2634), (14, .slice p4876 r4874.1.length c4877), (15, .slice p4881 r4874.2.1.length c4882), (16, .int .i64 r4874.2.2.1), (17, .bool r4874.2.2.2), (81, .bool (!r5095))] w5096 (by kernel_rfl) ?_
  refine W_nil ?_
  refine N_then ?_
  rcases gx_bif hm with ⟨hc5099, hm⟩ | ⟨hc5099, hm⟩
  · refine G_cond_t (b := (!r5095)) hc5099 (by kernel_rfl) ?_
    refine G_seq ?_
    refine G_region ?_
    refine W_run 1 [(6, .bool false)] w5096 (by kernel_rfl) ?_
    refine W_nil ?_
    refine N_then ?_
    refine G_ret ?_
    refine N_then_ret ?_
    obtain rfl := Option.some.inj hm
    refine N_ret [.bool false] (RVs_cons (RV_tmp (by kernel_rfl)) RVs_nil) ?_
    exact ⟨rfl, M5098.pick [] (by kernel_rfl)⟩
  refine G_cond_f (b := (!r5095)) hc5099 (by kernel_rfl) ?_
  refine G_skip ?_
  refine N_then ?_
  refine G_seq ?_
  refine G_seq ?_
  refine G_region ?_
  refine W_run 2 [(0, .slice p3 x1.length c4), (1, .slice p8 x6.length c9), (2, .int .i64 x11), (8, .slice p2609 r2607.1.length c2610), (9, .slice p2614 r2607.2.1.length c2615), (10, .int .i64 r2607.2.2.1), (11, .bool r2607.2.2.2), (12, .slice p2624 r2622.length c2625), (13, .slice p2633 r2631.length c2634), (14, .slice p4876 r4874.1.length c4877), (15, .slice p4881 r4874.2.1.length c4882), (16, .int .i64 r4874.2.2.1), (17, .bool r4874.2.2.2), (82, .slice p2633 r2631.length c2634), (83, .slice p8 x6.length c9)] w5096 (by kernel_rfl) ?_
  obtain ⟨r5100, hr5100, hm⟩ := gx_bind hm
  refine W_call 16 #[.slice p8 x6.length c9] (by kernel_rfl) (by kernel_rfl) ?_
  refine (c_l_toBalloonS w5096 x6 p8 c9 (h10.mem0 M5098) hr5100).mono ?_
  rintro e_ w5107 ⟨p5102, c5103, sg5104, sg5105, rfl, ho5106, K5108⟩
  have M5109 := M5098.call K5108
  refine ⟨_, rfl, ?_⟩
  obtain ⟨r5110, hr5110, hm⟩ := gx_bind hm
  refine W_call 19 #[.slice p2633 r2631.length c2634, .slice p5102 r5100.length c5103] (by kernel_rfl) (by kernel_rfl) ?_
  refine (c_l_eqBalloonS w5107 r2631 p2633 c2634 (ho2637.rd M5109 4 (by kernel_rfl) 5 (by kernel_rfl)) r5100 p5102 c5103 (ho5106.rd M5109 10 (by kernel_rfl) 11 (by kernel_rfl)) hr5110).mono ?_
  rintro e_ w5111 ⟨rfl, K5112⟩
  have M5113 := M5109.call0 K5112
  refine ⟨_, rfl, ?_⟩
  refine W_run 1 [(0, .slice p3 x1.length c4), (1, .slice p8 x6.length c9), (2, .int .i64 x11), (8, .slice p2609 r2607.1.length c2610), (9, .slice p2614 r2607.2.1.length c2615), (10, .int .i64 r2607.2.2.1), (11, .bool r2607.2.2.2), (12, .slice p2624 r2622.length c2625), (13, .slice p2633 r2631.length c2634), (14, .slice p4876 r4874.1.length c4877), (15, .slice p4881 r4874.2.1.length c4882), (16, .int .i64 r4874.2.2.1), (17, .bool r4874.2.2.2), (86, .bool (!r5110))] w5111 (by kernel_rfl) ?_
  refine W_nil ?_
  refine N_then ?_
  rcases gx_bif hm with ⟨hc5114, hm⟩ | ⟨hc5114, hm⟩
  · refine G_cond_t (b := (!r5110)) hc5114 (by kernel_rfl) ?_
    refine G_seq ?_
    refine G_region ?_
    refine W_run 1 [(6, .bool false)] w5111 (by kernel_rfl) ?_
    refine W_nil ?_
    refine N_then ?_
    refine G_ret ?_
    refine N_then_ret ?_
    obtain rfl := Option.some.inj hm
    refine N_ret [.bool false] (RVs_cons (RV_tmp (by kernel_rfl)) RVs_nil) ?_
    exact ⟨rfl, M5113.pick [] (by kernel_rfl)⟩
  refine G_cond_f (b := (!r5110)) hc5114 (by kernel_rfl) ?_
  refine G_skip ?_
  refine N_then ?_
  refine G_seq ?_
  refine G_region ?_
  refine W_run 1 [(0, .slice p3 x1.length c4), (1, .slice p8 x6.length c9), (2, .int .i64 x11), (8, .slice p2609 r2607.1.length c2610), (9, .slice p2614 r2607.2.1.length c2615), (10, .int .i64 r2607.2.2.1), (11, .bool r2607.2.2.2), (12, .slice p2624 r2622.length c2625), (13, .slice p2633 r2631.length c2634), (14, .slice p4876 r4874.1.length c4877), (15, .slice p4881 r4874.2.1.length c4882), (16, .int .i64 r4874.2.2.1), (17, .bool r4874.2.2.2), (18, .int .i64 1)] w5111 (by kernel_rfl) ?_
  refine W_nil ?_
  refine N_then ?_
  refine G_seq ?_
  refine G_region ?_
  refine W_run 2 [(0, .slice p3 x1.length c4), (1, .slice p8 x6.length c9), (2, .int .i64 x11), (8, .slice p2609 r2607.1.length c2610), (9, .slice p2614 r2607.2.1.length c2615), (10, .int .i64 r2607.2.2.1), (11, .bool r2607.2.2.2), (13, .slice p2633 r2631.length c2634), (14, .slice p4876 r4874.1.length c4877), (15, .slice p4881 r4874.2.1.length c4882), (16, .int .i64 r4874.2.2.1), (17, .bool r4874.2.2.2), (18, .int .i64 1), (87, .slice p2624 r2622.length c2625), (88, .int .i64 1)] w5111 (by kernel_rfl) ?_
  obtain ⟨r5165, hr5165, hm⟩ := gx_bind hm
  refine W_call 24 #[.slice p2624 r2622.length c2625, .int .i64 1] (by kernel_rfl) (by kernel_rfl) ?_
  refine (c_l_markIntS w5111 r2622 p2624 c2625 sg2626 ho2627 1 (M5113.hasPick [3]) (M5113.nodupPick [3] (by kernel_rfl)) hr5165).mono ?_
  rintro e_ w5169 ⟨sg5166, rfl, ho5167, hl5168, K5170⟩
  have M5171 := M5113.callF' [3] [0, 1, 2, 4, 5, 6, 7, 8, 9, 10, 11] (by kernel_rfl) K5170
  refine ⟨_, rfl, ?_⟩
  refine W_conv 87 (.slice p2624 r2622.length c2625) (.slice p2624 r5165.2.length c2625) (by kernel_rfl) (by first | rw [hl5168] | rw [hl5168]) ?_
  refine W_run 1 [(0, .slice p3 x1.length c4), (1, .slice p8 x6.length c9), (2, .int .i64 x11), (8, .slice p2609 r2607.1.length c2610), (9, .slice p2614 r2607.2.1.length c2615), (10, .int .i64 r2607.2.2.1), (11, .bool r2607.2.2.2), (13, .slice p2633 r2631.length c2634), (14, .slice p4876 r4874.1.length c4877), (15, .slice p4881 r4874.2.1.length c4882), (16, .int .i64 r4874.2.2.1), (17, .bool r4874.2.2.2), (18, .int .i64 r5165.1)] w5169 (by kernel_rfl) ?_
  refine W_nil ?_
  refine N_then ?_
  refine G_seq ?_
  refine G_region ?_
  refine W_run 2 [(0, .slice p3 x1.length c4), (1, .slice p8 x6.length c9), (2, .int .i64 x11), (8, .slice p2609 r2607.1.length c2610), (9, .slice p2614 r2607.2.1.length c2615), (10, .int .i64 r2607.2.2.1), (11, .bool r2607.2.2.2), (14, .slice p4876 r4874.1.length c4877), (15, .slice p4881 r4874.2.1.length c4882), (16, .int .i64 r4874.2.2.1), (17, .bool r4874.2.2.2), (18, .int .i64 r5165.1), (90, .slice p2633 r2631.length c2634), (91, .int .i64 r5165.1)] w5169 (by kernel_rfl) ?_
  obtain ⟨r5398, hr5398, hm⟩ := gx_bind hm
  refine W_call 25 #[.slice p2633 r2631.length c2634, .int .i64 r5165.1] (by kernel_rfl) (by kernel_rfl) ?_
  refine (c_l_markBalloonS w5169 r2631 p2633 c2634 sg2635 sg2636 ho2637 r5165.1 (M5171.hasPick [3, 4]) (M5171.nodupPick [3, 4] (by kernel_rfl)) hr5398).mono ?_
  rintro e_ w5403 ⟨sg5399, sg5400, rfl, ho5401, hl5402, K5404⟩
  have M5405 := M5171.callF' [3, 4] [0, 1, 2, 5, 6, 7, 8, 9, 10, 11] (by kernel_rfl) K5404
  refine ⟨_, rfl, ?_⟩
  refine W_conv 90 (.slice p2633 r2631.length c2634) (.slice p2633 r5398.2.length c2634) (by kernel_rfl) (by first | rw [hl5402] | rw [hl5402]) ?_
  refine W_run 1 [(0, .slice p3 x1.length c4), (1, .slice p8 x6.length c9), (2, .int .i64 x11), (8, .slice p2609 r2607.1.length c2610), (9, .slice p2614 r2607.2.1.length c2615), (10, .int .i64 r2607.2.2.1), (11, .bool r2607.2.2.2), (14, .slice p4876 r4874.1.length c4877), (15, .slice p4881 r4874.2.1.length c4882), (16, .int .i64 r4874.2.2.1), (17, .bool r4874.2.2.2), (18, .int .i64 r5398.1)] w5403 (by kernel_rfl) ?_
  refine W_nil ?_
  refine N_then ?_
  refine G_seq ?_
  refine G_seq ?_
  obtain ⟨o5418, ho5419, hm5420⟩ := gx_bind hm
  refine G_meet (fun a w' => Mem [] w w' [sg2611, sg2616, sg2617, sg4878, sg4883, sg4884] ∧ Sat Try.f10.ntmps [(0, .slice p3 x1.length c4), (1, .slice p8 x6.length c9), (2, .int .i64 x11), (8, .slice p2609 r2607.1.length c2610), (9, .slice p2614 r2607.2.1.length c2615), (10, .int .i64 r2607.2.2.1), (11, .bool r2607.2.2.2), (14, .slice p4876 r4874.1.length c4877), (15, .slice p4881 r4874.2.1.length c4882), (116, .bool o5418)] a) ?_ ?_
  · have hm := ho5419
    refine G_region ?_
    refine W_run 3 [(0, .slice p3 x1.length c4), (1, .slice p8 x6.length c9), (2, .int .i64 x11), (8, .slice p2609 r2607.1.length c2610), (9, .slice p2614 r2607.2.1.length c2615), (10, .int .i64 r2607.2.2.1), (11, .bool r2607.2.2.2), (14, .slice p4876 r4874.1.length c4877), (15, .slice p4881 r4874.2.1.length c4882), (16, .int .i64 r4874.2.2.1), (17, .bool r4874.2.2.2), (95, .bool (decide (r5398.1 < 0)))] w5403 (by kernel_rfl) ?_
    rcases gx_bif hm with ⟨hc5421, hm⟩ | ⟨hc5421, hm⟩
    · refine W_known 95 true (by kernel_rfl) hc5421 ?_
      refine W_run 21 [(0, .slice p3 x1.length c4), (1, .slice p8 x6.length c9), (2, .int .i64 x11), (8, .slice p2609 r2607.1.length c2610), (9, .slice p2614 r2607.2.1.length c2615), (10, .int .i64 r2607.2.2.1), (11, .bool r2607.2.2.2), (14, .slice p4876 r4874.1.length c4877), (15, .slice p4881 r4874.2.1.length c4882), (116, .bool true)] w5403 (by kernel_rfl) ?_
      refine W_nil ?_
      obtain rfl := Option.some.inj hm
      exact N_meet fun a ha => ⟨M5405.pick [0, 1, 2, 3, 4, 5] (by kernel_rfl), ha.sub (by kernel_rfl)⟩
    refine W_known 95 false (by kernel_rfl) hc5421 ?_
    refine W_run 2 [(0, .slice p3 x1.length c4), (1, .slice p8 x6.length c9), (2, .int .i64 x11), (8, .slice p2609 r2607.1.length c2610), (9, .slice p2614 r2607.2.1.length c2615), (10, .int .i64 r2607.2.2.1), (11, .bool r2607.2.2.2), (14, .slice p4876 r4874.1.length c4877), (15, .slice p4881 r4874.2.1.length c4882), (16, .int .i64 r4874.2.2.1), (17, .bool r4874.2.2.2), (95, .bool false), (96, .slice p4876 r4874.1.length c4877), (97, .slice p2609 r2607.1.length c2610)] w5403 (by kernel_rfl) ?_
    obtain ⟨r5422, hr5422, hm⟩ := gx_bind hm
    refine W_call 18 #[.slice p4876 r4874.1.length c4877, .slice p2609 r2607.1.length c2610] (by kernel_rfl) (by kernel_rfl) ?_
    refine (c_l_eqIntS w5403 r4874.1 p4876 c4877 (ho4879.rd M5405 3 (by kernel_rfl)) r2607.1 p2609 c2610 (ho2612.rd M5405 0 (by kernel_rfl)) hr5422).mono ?_
    rintro e_ w5423 ⟨rfl, K5424⟩
    have M5425 := M5405.call0 K5424
    refine ⟨_, rfl, ?_⟩
    refine W_run 3 [(0, .slice p3 x1.length c4), (1, .slice p8 x6.length c9), (2, .int .i64 x11), (8, .slice p2609 r2607.1.length c2610), (9, .slice p2614 r2607.2.1.length c2615), (10, .int .i64 r2607.2.2.1), (11, .bool r2607.2.2.2), (14, .slice p4876 r4874.1.length c4877), (15, .slice p4881 r4874.2.1.length c4882), (16, .int .i64 r4874.2.2.1), (17, .bool r4874.2.2.2), (101, .bool (!r5422))] w5423 (by kernel_rfl) ?_
    rcases gx_bif hm with ⟨hc5426, hm⟩ | ⟨hc5426, hm⟩
    · refine W_known 101 true (by kernel_rfl) hc5426 ?_
      refine W_run 15 [(0, .slice p3 x1.length c4), (1, .slice p8 x6.length c9), (2, .int .i64 x11), (8, .slice p2609 r2607.1.length c2610), (9, .slice p2614 r2607.2.1.length c2615), (10, .int .i64 r2607.2.2.1), (11, .bool r2607.2.2.2), (14, .slice p4876 r4874.1.length c4877), (15, .slice p4881 r4874.2.1.length c4882), (116, .bool true)] w5423 (by kernel_rfl) ?_
      refine W_nil ?_
      obtain rfl := Option.some.inj hm
      exact N_meet fun a ha => ⟨M5425.pick [0, 1, 2, 3, 4, 5] (by kernel_rfl), ha.sub (by kernel_rfl)⟩
    refine W_known 101 false (by kernel_rfl) hc5426 ?_
    refine W_run 2 [(0, .slice p3 x1.length c4), (1, .slice p8 x6.length c9), (2, .int .i64 x11), (8, .slice p2609 r2607.1.length c2610), (9, .slice p2614 r2607.2.1.length c2615), (10, .int .i64 r2607.2.2.1), (11, .bool r2607.2.2.2), (14, .slice p4876 r4874.1.length c4877), (15, .slice p4881 r4874.2.1.length c4882), (16, .int .i64 r4874.2.2.1), (17, .bool r4874.2.2.2), (101, .bool false), (102, .slice p4881 r4874.2.1.length c4882), (103, .slice p2614 r2607.2.1.length c2615)] w5423 (by kernel_rfl) ?_
    obtain ⟨r5427, hr5427, hm⟩ := gx_bind hm
    refine W_call 19 #[.slice p4881 r4874.2.1.length c4882, .slice p2614 r2607.2.1.length c2615] (by kernel_rfl) (by kernel_rfl) ?_
    refine (c_l_eqBalloonS w5423 r4874.2.1 p4881 c4882 (ho4885.rd M5425 4 (by kernel_rfl) 5 (by kernel_rfl)) r2607.2.1 p2614 c2615 (ho2618.rd M5425 1 (by kernel_rfl) 2 (by kernel_rfl)) hr5427).mono ?_
    rintro e_ w5428 ⟨rfl, K5429⟩
    have M5430 := M5425.call0 K5429
    refine ⟨_, rfl, ?_⟩
    refine W_run 3 [(0, .slice p3 x1.length c4), (1, .slice p8 x6.length c9), (2, .int .i64 x11), (8, .slice p2609 r2607.1.length c2610), (9, .slice p2614 r2607.2.1.length c2615), (10, .int .i64 r2607.2.2.1), (11, .bool r2607.2.2.2), (14, .slice p4876 r4874.1.length c4877), (15, .slice p4881 r4874.2.1.length c4882), (16, .int .i64 r4874.2.2.1), (17, .bool r4874.2.2.2), (107, .bool (!r5427))] w5428 (by kernel_rfl) ?_
    rcases gx_bif hm with ⟨hc5431, hm⟩ | ⟨hc5431, hm⟩
    · refine W_known 107 true (by kernel_rfl) hc5431 ?_
      refine W_run 9 [(0, .slice p3 x1.length c4), (1, .slice p8 x6.length c9), (2, .int .i64 x11), (8, .slice p2609 r2607.1.length c2610), (9, .slice p2614 r2607.2.1.length c2615), (10, .int .i64 r2607.2.2.1), (11, .bool r2607.2.2.2), (14, .slice p4876 r4874.1.length c4877), (15, .slice p4881 r4874.2.1.length c4882), (116, .bool true)] w5428 (by kernel_rfl) ?_
      refine W_nil ?_
      obtain rfl := Option.some.inj hm
      exact N_meet fun a ha => ⟨M5430.pick [0, 1, 2, 3, 4, 5] (by kernel_rfl), ha.sub (by kernel_rfl)⟩
    refine W_known 107 false (by kernel_rfl) hc5431 ?_
    refine W_run 5 [(0, .slice p3 x1.length c4), (1, .slice p8 x6.length c9), (2, .int .i64 x11), (8, .slice p2609 r2607.1.length c2610), (9, .slice p2614 r2607.2.1.length c2615), (10, .int .i64 r2607.2.2.1), (11, .bool r2607.2.2.2), (14, .slice p4876 r4874.1.length c4877), (15, .slice p4881 r4874.2.1.length c4882), (17, .bool r4874.2.2.2), (112, .bool (r4874.2.2.1 != r2607.2.2.1))] w5428 (by kernel_rfl) ?_
    rcases gx_bif hm with ⟨hc5432, hm⟩ | ⟨hc5432, hm⟩
    · refine W_known 112 true (by kernel_rfl) hc5432 ?_
      refine W_run 4 [(0, .slice p3 x1.length c4), (1, .slice p8 x6.length c9), (2, .int .i64 x11), (8, .slice p2609 r2607.1.length c2610), (9, .slice p2614 r2607.2.1.length c2615), (10, .int .i64 r2607.2.2.1), (11, .bool r2607.2.2.2), (14, .slice p4876 r4874.1.length c4877), (15, .slice p4881 r4874.2.1.length c4882), (116, .bool true)] w5428 (by kernel_rfl) ?_
      refine W_nil ?_
      obtain rfl := Option.some.inj hm
      exact N_meet fun a ha => ⟨M5430.pick [0, 1, 2, 3, 4, 5] (by kernel_rfl), ha.sub (by kernel_rfl)⟩
    refine W_known 112 false (by kernel_rfl) hc5432 ?_
    refine W_run 4 [(0, .slice p3 x1.length c4), (1, .slice p8 x6.length c9), (2, .int .i64 x11), (8, .slice p2609 r2607.1.length c2610), (9, .slice p2614 r2607.2.1.length c2615), (10, .int .i64 r2607.2.2.1), (11, .bool r2607.2.2.2), (14, .slice p4876 r4874.1.length c4877), (15, .slice p4881 r4874.2.1.length c4882), (116, .bool (!(r4874.2.2.2 == r2607.2.2.2)))] w5428 (by kernel_rfl) ?_
    refine W_nil ?_
    obtain rfl := Option.some.inj hm
    exact N_meet fun a ha => ⟨M5430.pick [0, 1, 2, 3, 4, 5] (by kernel_rfl), ha.sub (by kernel_rfl)⟩
  intro a5435 w5433 ⟨M5434, hS5436⟩
  refine N_use hS5436 ?_
  have hm := hm5420
  refine N_then ?_
  rcases gx_bif hm with ⟨hc5437, hm⟩ | ⟨hc5437, hm⟩
  · refine G_cond_t (b := o5418) hc5437 (by kernel_rfl) ?_
    refine G_seq ?_
    refine G_region ?_
    refine W_run 1 [(6, .bool false)] w5433 (by kernel_rfl) ?_
    refine W_nil ?_
    refine N_then ?_
    refine G_ret ?_
    refine N_then_ret ?_
    obtain rfl := Option.some.inj hm
    refine N_ret [.bool false] (RVs_cons (RV_tmp (by kernel_rfl)) RVs_nil) ?_
    exact ⟨rfl, M5434.pick [] (by kernel_rfl)⟩
  refine G_cond_f (b := o5418) hc5437 (by kernel_rfl) ?_
  refine G_skip ?_
  refine N_then ?_
  refine G_seq ?_
  refine G_region ?_
  refine W_run 1 [(0, .slice p3 x1.length c4), (1, .slice p8 x6.length c9), (2, .int .i64 x11), (8, .slice p2609 r2607.1.length c2610), (9, .slice p2614 r2607.2.1.length c2615), (10, .int .i64 r2607.2.2.1), (11, .bool r2607.2.2.2), (14, .slice p4876 r4874.1.length c4877), (15, .slice p4881 r4874.2.1.length c4882), (19, .int .i64 1)] w5433 (by kernel_rfl) ?_
  refine W_nil ?_
  refine N_then ?_
  refine G_seq ?_
  refine G_region ?_
  refine W_run 2 [(0, .slice p3 x1.length c4), (1, .slice p8 x6.length c9), (2, .int .i64 x11), (8, .slice p2609 r2607.1.length c2610), (9, .slice p2614 r2607.2.1.length c2615), (10, .int .i64 r2607.2.2.1), (11, .bool r2607.2.2.2), (14, .slice p4876 r4874.1.length c4877), (15, .slice p4881 r4874.2.1.length c4882), (19, .int .i64 1), (117, .slice p4876 r4874.1.length c4877), (118, .int .i64 1)] w5433 (by kernel_rfl) ?_
  obtain ⟨r5438, hr5438, hm⟩ := gx_bind hm
  refine W_call 24 #[.slice p4876 r4874.1.length c4877, .int .i64 1] (by kernel_rfl) (by kernel_rfl) ?_
  refine (c_l_markIntS w5433 r4874.1 p4876 c4877 sg4878 ho4879 1 (M5434.hasPick [3]) (M5434.nodupPick [3] (by kernel_rfl)) hr5438).mono ?_
  rintro e_ w5442 ⟨sg5439, rfl, ho5440, hl5441, K5443⟩
  have M5444 := M5434.callF' [3] [0, 1, 2, 4, 5] (by kernel_rfl) K5443
  refine ⟨_, rfl, ?_⟩
  refine W_conv 14 (.slice p4876 r4874.1.length c4877) (.slice p4876 r5438.2.length c4877) (by kernel_rfl) (by first | rw [hl5441] | rw [hl5441]) ?_
  refine W_conv 117 (.slice p4876 r4874.1.length c4877) (.slice p4876 r5438.2.length c4877) (by kernel_rfl) (by first | rw [hl5441] | rw [hl5441]) ?_
  refine W_run 1 [(0, .slice p3 x1.length c4), (1, .slice p8 x6.length c9), (2, .int .i64 x11), (8, .slice p2609 r2607.1.length c2610), (9, .slice p2614 r2607.2.1.length c2615), (10, .int .i64 r2607.2.2.1), (11, .bool r2607.2.2.2), (14, .slice p4876 r5438.2.length c4877), (15, .slice p4881 r4874.2.1.length c4882), (19, .int .i64 r5438.1)] w5442 (by kernel_rfl) ?_
  refine W_nil ?_
  refine N_then ?_
  refine G_seq ?_
  refine G_region ?_
  refine W_run 2 [(0, .slice p3 x1.length c4), (1, .slice p8 x6.length c9), (2, .int .i64 x11), (8, .slice p2609 r2607.1.length c2610), (9, .slice p2614 r2607.2.1.length c2615), (10, .int .i64 r2607.2.2.1), (11, .bool r2607.2.2.2), (14, .slice p4876 r5438.2.length c4877), (15, .slice p4881 r4874.2.1.length c4882), (19, .int .i64 r5438.1), (120, .slice p4881 r4874.2.1.length c4882), (121, .int .i64 r5438.1)] w5442 (by kernel_rfl) ?_
  obtain ⟨r5445, hr5445, hm⟩ := gx_bind hm
  refine W_call 25 #[.slice p4881 r4874.2.1.length c4882, .int .i64 r5438.1] (by kernel_rfl) (by kernel_rfl) ?_
  refine (c_l_markBalloonS w5442 r4874.2.1 p4881 c4882 sg4883 sg4884 ho4885 r5438.1 (M5444.hasPick [3, 4]) (M5444.nodupPick [3, 4] (by kernel_rfl)) hr5445).mono ?_
  rintro e_ w5450 ⟨sg5446, sg5447, rfl, ho5448, hl5449, K5451⟩
  have M5452 := M5444.callF' [3, 4] [0, 1, 2, 5] (by kernel_rfl) K5451
  refine ⟨_, rfl, ?_⟩
  refine W_conv 15 (.slice p4881 r4874.2.1.length c4882) (.slice p4881 r5445.2.length c4882) (by kernel_rfl) (by first | rw [hl5449] | rw [hl5449]) ?_
  refine W_conv 120 (.slice p4881 r4874.2.1.length c4882) (.slice p4881 r5445.2.length c4882) (by kernel_rfl) (by first | rw [hl5449] | rw [hl5449]) ?_
  refine W_run 1 [(0, .slice p3 x1.length c4), (1, .slice p8 x6.length c9), (2, .int .i64 x11), (8, .slice p2609 r2607.1.length c2610), (9, .slice p2614 r2607.2.1.length c2615), (10, .int .i64 r2607.2.2.1), (11, .bool r2607.2.2.2), (14, .slice p4876 r5438.2.length c4877), (15, .slice p4881 r5445.2.length c4882), (19, .int .i64 r5445.1)] w5450 (by kernel_rfl) ?_
  refine W_nil ?_
  refine N_then ?_
  refine G_seq ?_
  refine G_region ?_
  refine W_run 1 [(0, .slice p3 x1.length c4), (1, .slice p8 x6.length c9), (2, .int .i64 x11), (8, .slice p2609 r2607.1.length c2610), (9, .slice p2614 r2607.2.1.length c2615), (10, .int .i64 r2607.2.2.1), (11, .bool r2607.2.2.2), (14, .slice p4876 r5438.2.length c4877), (15, .slice p4881 r5445.2.length c4882), (19, .int .i64 r5445.1), (20, .int .i64 1)] w5450 (by kernel_rfl) ?_
  refine W_nil ?_
  refine N_then ?_
  refine G_seq ?_
  refine G_region ?_
  refine W_run 2 [(0, .slice p3 x1.length c4), (1, .slice p8 x6.length c9), (2, .int .i64 x11), (8, .slice p2609 r2607.1.length c2610), (9, .slice p2614 r2607.2.1.length c2615), (10, .int .i64 r2607.2.2.1), (11, .bool r2607.2.2.2), (14, .slice p4876 r5438.2.length c4877), (15, .slice p4881 r5445.2.length c4882), (19, .int .i64 r5445.1), (20, .int .i64 1), (123, .slice p4876 r5438.2.length c4877), (124, .int .i64 1)] w5450 (by kernel_rfl) ?_
  obtain ⟨r5483, hr5483, hm⟩ := gx_bind hm
  refine W_call 29 #[.slice p4876 r5438.2.length c4877, .int .i64 1] (by kernel_rfl) (by kernel_rfl) ?_
  refine (c_l_heldIntS w5450 r5438.2 p4876 c4877 (ho5440.rd M5452 3 (by kernel_rfl)) 1 hr5483).mono ?_
  rintro e_ w5484 ⟨rfl, K5485⟩
  have M5486 := M5452.call0 K5485
  refine ⟨_, rfl, ?_⟩
  refine W_run 1 [(0, .slice p3 x1.length c4), (1, .slice p8 x6.length c9), (2, .int .i64 x11), (8, .slice p2609 r2607.1.length c2610), (9, .slice p2614 r2607.2.1.length c2615), (10, .int .i64 r2607.2.2.1), (11, .bool r2607.2.2.2), (14, .slice p4876 r5438.2.length c4877), (15, .slice p4881 r5445.2.length c4882), (19, .int .i64 r5445.1), (20, .int .i64 r5483)] w5484 (by kernel_rfl) ?_
  refine W_nil ?_
  refine N_then ?_
  refine G_seq ?_
  refine G_seq ?_
  refine G_region ?_
  refine W_run 2 [(0, .slice p3 x1.length c4), (1, .slice p8 x6.length c9), (2, .int .i64 x11), (8, .slice p2609 r2607.1.length c2610), (9, .slice p2614 r2607.2.1.length c2615), (10, .int .i64 r2607.2.2.1), (11, .bool r2607.2.2.2), (14, .slice p4876 r5438.2.length c4877), (15, .slice p4881 r5445.2.length c4882), (19, .int .i64 r5445.1), (20, .int .i64 r5483), (127, .bool (decide (r5483 < 0)))] w5484 (by kernel_rfl) ?_
  refine W_nil ?_
  refine N_then ?_
  rcases gx_bif hm with ⟨hc5487, hm⟩ | ⟨hc5487, hm⟩
  · refine G_cond_t (b := (decide (r5483 < 0))) hc5487 (by kernel_rfl) ?_
    refine G_seq ?_
    refine G_region ?_
    refine W_run 1 [(6, .bool false)] w5484 (by kernel_rfl) ?_
    refine W_nil ?_
    refine N_then ?_
    refine G_ret ?_
    refine N_then_ret ?_
    obtain rfl := Option.some.inj hm
    refine N_ret [.bool false] (RVs_cons (RV_tmp (by kernel_rfl)) RVs_nil) ?_
    exact ⟨rfl, M5486.pick [] (by kernel_rfl)⟩
  refine G_cond_f (b := (decide (r5483 < 0))) hc5487 (by kernel_rfl) ?_
  refine G_skip ?_
  refine N_then ?_
  refine G_seq ?_
  refine G_region ?_
  refine W_run 2 [(0, .slice p3 x1.length c4), (1, .slice p8 x6.length c9), (2, .int .i64 x11), (8, .slice p2609 r2607.1.length c2610), (9, .slice p2614 r2607.2.1.length c2615), (10, .int .i64 r2607.2.2.1), (11, .bool r2607.2.2.2), (14, .slice p4876 r5438.2.length c4877), (15, .slice p4881 r5445.2.length c4882), (19, .int .i64 r5445.1), (20, .int .i64 r5483), (128, .slice p4881 r5445.2.length c4882), (129, .int .i64 r5483)] w5484 (by kernel_rfl) ?_
  obtain ⟨r5581, hr5581, hm⟩ := gx_bind hm
  refine W_call 26 #[.slice p4881 r5445.2.length c4882, .int .i64 r5483] (by kernel_rfl) (by kernel_rfl) ?_
  refine (c_l_heldBalloonS w5484 r5445.2 p4881 c4882 (ho5448.rd M5486 4 (by kernel_rfl) 5 (by kernel_rfl)) r5483 hr5581).mono ?_
  rintro e_ w5582 ⟨rfl, K5583⟩
  have M5584 := M5486.call0 K5583
  refine ⟨_, rfl, ?_⟩
  refine W_run 1 [(0, .slice p3 x1.length c4), (1, .slice p8 x6.length c9), (2, .int .i64 x11), (8, .slice p2609 r2607.1.length c2610), (9, .slice p2614 r2607.2.1.length c2615), (10, .int .i64 r2607.2.2.1), (11, .bool r2607.2.2.2), (14, .slice p4876 r5438.2.length c4877), (15, .slice p4881 r5445.2.length c4882), (19, .int .i64 r5445.1), (20, .int .i64 r5581)] w5582 (by kernel_rfl) ?_
  refine W_nil ?_
  refine N_then ?_
  refine G_seq ?_
  refine G_seq ?_
  refine G_region ?_
  refine W_run 2 [(0, .slice p3 x1.length c4), (1, .slice p8 x6.length c9), (2, .int .i64 x11), (8, .slice p2609 r2607.1.length c2610), (9, .slice p2614 r2607.2.1.length c2615), (10, .int .i64 r2607.2.2.1), (11, .bool r2607.2.2.2), (14, .slice p4876 r5438.2.length c4877), (15, .slice p4881 r5445.2.length c4882), (19, .int .i64 r5445.1), (20, .int .i64 r5581), (132, .bool (decide (r5581 < 0)))] w5582 (by kernel_rfl) ?_
  refine W_nil ?_
  refine N_then ?_
  rcases gx_bif hm with ⟨hc5585, hm⟩ | ⟨hc5585, hm⟩
  · refine G_cond_t (b := (decide (r5581 < 0))) hc5585 (by kernel_rfl) ?_
    refine G_seq ?_
    refine G_region ?_
    refine W_run 1 [(6, .bool false)] w5582 (by kernel_rfl) ?_
    refine W_nil ?_
    refine N_then ?_
    refine G_ret ?_
    refine N_then_ret ?_
    obtain rfl := Option.some.inj hm
    refine N_ret [.bool false] (RVs_cons (RV_tmp (by kernel_rfl)) RVs_nil) ?_
    exact ⟨rfl, M5584.pick [] (by kernel_rfl)⟩
  refine G_cond_f (b := (decide (r5581 < 0))) hc5585 (by kernel_rfl) ?_
  refine G_skip ?_
  refine N_then ?_
  refine G_seq ?_
  refine G_seq ?_
  refine G_region ?_
  refine W_run 3 [(0, .slice p3 x1.length c4), (1, .slice p8 x6.length c9), (2, .int .i64 x11), (8, .slice p2609 r2607.1.length c2610), (9, .slice p2614 r2607.2.1.length c2615), (10, .int .i64 r2607.2.2.1), (11, .bool r2607.2.2.2), (14, .slice p4876 r5438.2.length c4877), (15, .slice p4881 r5445.2.length c4882), (19, .int .i64 r5445.1), (135, .bool (r5581 != r5445.1))] w5582 (by kernel_rfl) ?_
  refine W_nil ?_
  refine N_then ?_
  rcases gx_bif hm with ⟨hc5586, hm⟩ | ⟨hc5586, hm⟩
  · refine G_cond_t (b := (r5581 != r5445.1)) hc5586 (by kernel_rfl) ?_
    refine G_seq ?_
    refine G_region ?_
    refine W_run 1 [(6, .bool false)] w5582 (by kernel_rfl) ?_
    refine W_nil ?_
    refine N_then ?_
    refine G_ret ?_
    refine N_then_ret ?_
    obtain rfl := Option.some.inj hm
    refine N_ret [.bool false] (RVs_cons (RV_tmp (by kernel_rfl)) RVs_nil) ?_
    exact ⟨rfl, M5584.pick [] (by kernel_rfl)⟩
  refine G_cond_f (b := (r5581 != r5445.1)) hc5586 (by kernel_rfl) ?_
  refine G_skip ?_
  refine N_then ?_
  refine G_seq ?_
  refine G_region ?_
  refine W_run 1 [(1, .slice p8 x6.length c9), (2, .int .i64 x11), (8, .slice p2609 r2607.1.length c2610), (9, .slice p2614 r2607.2.1.length c2615), (10, .int .i64 r2607.2.2.1), (11, .bool r2607.2.2.2), (14, .slice p4876 r5438.2.length c4877), (15, .slice p4881 r5445.2.length c4882), (19, .int .i64 r5445.1), (137, .slice p3 x1.length c4)] w5582 (by kernel_rfl) ?_
  obtain ⟨r5587, hr5587, hm⟩ := gx_bind hm
  refine W_call 15 #[.slice p3 x1.length c4] (by kernel_rfl) (by kernel_rfl) ?_
  refine (c_l_toIntS w5582 x1 p3 c4 (h5.mem0 M5584) hr5587).mono ?_
  rintro e_ w5593 ⟨p5589, c5590, sg5591, rfl, ho5592, K5594⟩
  have M5595 := M5584.call K5594
  refine ⟨_, rfl, ?_⟩
  refine W_run 1 [(2, .int .i64 x11), (8, .slice p2609 r2607.1.length c2610), (9, .slice p2614 r2607.2.1.length c2615), (10, .int .i64 r2607.2.2.1), (11, .bool r2607.2.2.2), (14, .slice p4876 r5438.2.length c4877), (15, .slice p4881 r5445.2.length c4882), (19, .int .i64 r5445.1), (138, .slice p5589 r5587.length c5590), (139, .slice p8 x6.length c9)] w5593 (by kernel_rfl) ?_
  obtain ⟨r5596, hr5596, hm⟩ := gx_bind hm
  refine W_call 16 #[.slice p8 x6.length c9] (by kernel_rfl) (by kernel_rfl) ?_
  refine (c_l_toBalloonS w5593 x6 p8 c9 (h10.mem0 M5595) hr5596).mono ?_
  rintro e_ w5603 ⟨p5598, c5599, sg5600, sg5601, rfl, ho5602, K5604⟩
  have M5605 := M5595.call K5604
  refine ⟨_, rfl, ?_⟩
  refine W_run 1 [(8, .slice p2609 r2607.1.length c2610), (9, .slice p2614 r2607.2.1.length c2615), (10, .int .i64 r2607.2.2.1), (11, .bool r2607.2.2.2), (14, .slice p4876 r5438.2.length c4877), (15, .slice p4881 r5445.2.length c4882), (19, .int .i64 r5445.1), (138, .slice p5589 r5587.length c5590), (140, .slice p5598 r5596.length c5599), (141, .int .i64 x11)] w5603 (by kernel_rfl) ?_
  obtain ⟨r5606, hr5606, hm⟩ := gx_bind hm
  refine W_call 37 #[.slice p5589 r5587.length c5590, .slice p5598 r5596.length c5599, .int .i64 x11] (by kernel_rfl) (by kernel_rfl) ?_
  refine (c_i_SettleGuest w5603 r5587 p5589 c5590 (ho5592.rd M5605 6 (by kernel_rfl)) r5596 p5598 c5599 (ho5602.rd M5605 7 (by kernel_rfl) 8 (by kernel_rfl)) x11 hr5606).mono ?_
  rintro e_ w5618 ⟨p5608, c5609, sg5610, p5613, c5614, sg5615, sg5616, rfl, ho5611, ho5617, K5619⟩
  have M5620 := M5605.call K5619
  refine ⟨_, rfl, ?_⟩
  refine W_run 9 [(8, .slice p2609 r2607.1.length c2610), (9, .slice p2614 r2607.2.1.length c2615), (10, .int .i64 r2607.2.2.1), (11, .bool r2607.2.2.2), (14, .slice p4876 r5438.2.length c4877), (15, .slice p4881 r5445.2.length c4882), (19, .int .i64 r5445.1), (21, .slice p5608 r5606.1.length c5609), (22, .slice p5613 r5606.2.1.length c5614), (23, .int .i64 r5606.2.2.1), (24, .bool r5606.2.2.2)] w5618 (by kernel_rfl) ?_
  refine W_nil ?_
  refine N_then ?_
  refine G_seq ?_
  refine G_seq ?_
  obtain ⟨o5632, ho5633, hm5634⟩ := gx_bind hm
  refine G_meet (fun a w' => Mem [] w w' [sg5439, sg5446, sg5447] ∧ Sat Try.f10.ntmps [(14, .slice p4876 r5438.2.length c4877), (15, .slice p4881 r5445.2.length c4882), (19, .int .i64 r5445.1), (166, .bool o5632)] a) ?_ ?_
  · have hm := ho5633
    refine G_region ?_
    refine W_run 2 [(9, .slice p2614 r2607.2.1.length c2615), (10, .int .i64 r2607.2.2.1), (11, .bool r2607.2.2.2), (14, .slice p4876 r5438.2.length c4877), (15, .slice p4881 r5445.2.length c4882), (19, .int .i64 r5445.1), (22, .slice p5613 r5606.2.1.length c5614), (23, .int .i64 r5606.2.2.1), (24, .bool r5606.2.2.2), (147, .slice p5608 r5606.1.length c5609), (148, .slice p2609 r2607.1.length c2610)] w5618 (by kernel_rfl) ?_
    obtain ⟨r5635, hr5635, hm⟩ := gx_bind hm
    refine W_call 18 #[.slice p5608 r5606.1.length c5609, .slice p2609 r2607.1.length c2610] (by kernel_rfl) (by kernel_rfl) ?_
    refine (c_l_eqIntS w5618 r5606.1 p5608 c5609 (ho5611.rd M5620 9 (by kernel_rfl)) r2607.1 p2609 c2610 (ho2612.rd M5620 0 (by kernel_rfl)) hr5635).mono ?_
    rintro e_ w5636 ⟨rfl, K5637⟩
    have M5638 := M5620.call0 K5637
    refine ⟨_, rfl, ?_⟩
    refine W_run 2 [(9, .slice p2614 r2607.2.1.length c2615), (10, .int .i64 r2607.2.2.1), (11, .bool r2607.2.2.2), (14, .slice p4876 r5438.2.length c4877), (15, .slice p4881 r5445.2.length c4882), (19, .int .i64 r5445.1), (22, .slice p5613 r5606.2.1.length c5614), (23, .int .i64 r5606.2.2.1), (24, .bool r5606.2.2.2), (151, .bool (!r5635))] w5636 (by kernel_rfl) ?_
    rcases gx_bif hm with ⟨hc5639, hm⟩ | ⟨hc5639, hm⟩
    · refine W_known 151 true (by kernel_rfl) hc5639 ?_
      refine W_run 15 [(14, .slice p4876 r5438.2.length c4877), (15, .slice p4881 r5445.2.length c4882), (19, .int .i64 r5445.1), (166, .bool true)] w5636 (by kernel_rfl) ?_
      refine W_nil ?_
      obtain rfl := Option.some.inj hm
      exact N_meet fun a ha => ⟨M5638.pick [3, 4, 5] (by kernel_rfl), ha.sub (by kernel_rfl)⟩
    refine W_known 151 false (by kernel_rfl) hc5639 ?_
    refine W_run 2 [(10, .int .i64 r2607.2.2.1), (11, .bool r2607.2.2.2), (14, .slice p4876 r5438.2.length c4877), (15, .slice p4881 r5445.2.length c4882), (19, .int .i64 r5445.1), (23, .int .i64 r5606.2.2.1), (24, .bool r5606.2.2.2), (151, .bool false), (152, .slice p5613 r5606.2.1.length c5614), (153, .slice p2614 r2607.2.1.length c2615)] w5636 (by kernel_rfl) ?_
    obtain ⟨r5640, hr5640, hm⟩ := gx_bind hm
    refine W_call 19 #[.slice p5613 r5606.2.1.length c5614, .slice p2614 r2607.2.1.length c2615] (by kernel_rfl) (by kernel_rfl) ?_
    refine (c_l_eqBalloonS w5636 r5606.2.1 p5613 c5614 (ho5617.rd M5638 10 (by kernel_rfl) 11 (by kernel_rfl)) r2607.2.1 p2614 c2615 (ho2618.rd M5638 1 (by kernel_rfl) 2 (by kernel_rfl)) hr5640).mono ?_
    rintro e_ w5641 ⟨rfl, K5642⟩
    have M5643 := M5638.call0 K5642
    refine ⟨_, rfl, ?_⟩
    refine W_run 3 [(10, .int .i64 r2607.2.2.1), (11, .bool r2607.2.2.2), (14, .slice p4876 r5438.2.length c4877), (15, .slice p4881 r5445.2.length c4882), (19, .int .i64 r5445.1), (23, .int .i64 r5606.2.2.1), (24, .bool r5606.2.2.2), (157, .bool (!r5640))] w5641 (by kernel_rfl) ?_
    rcases gx_bif hm with ⟨hc5644, hm⟩ | ⟨hc5644, hm⟩
    · refine W_known 157 true (by kernel_rfl) hc5644 ?_
      refine W_run 9 [(14, .slice p4876 r5438.2.length c4877), (15, .slice p4881 r5445.2.length c4882), (19, .int .i64 r5445.1), (166, .bool true)] w5641 (by kernel_rfl) ?_
      refine W_nil ?_
      obtain rfl := Option.some.inj hm
      exact N_meet fun a ha => ⟨M5643.pick [3, 4, 5] (by kernel_rfl), ha.sub (by kernel_rfl)⟩
    refine W_known 157 false (by kernel_rfl) hc5644 ?_
    refine W_run 5 [(11, .bool r2607.2.2.2), (14, .slice p4876 r5438.2.length c4877), (15, .slice p4881 r5445.2.length c4882), (19, .int .i64 r5445.1), (24, .bool r5606.2.2.2), (162, .bool (r5606.2.2.1 != r2607.2.2.1))] w5641 (by kernel_rfl) ?_
    rcases gx_bif hm with ⟨hc5645, hm⟩ | ⟨hc5645, hm⟩
    · refine W_known 162 true (by kernel_rfl) hc5645 ?_
      refine W_run 4 [(14, .slice p4876 r5438.2.length c4877), (15, .slice p4881 r5445.2.length c4882), (19, .int .i64 r5445.1), (166, .bool true)] w5641 (by kernel_rfl) ?_
      refine W_nil ?_
      obtain rfl := Option.some.inj hm
      exact N_meet fun a ha => ⟨M5643.pick [3, 4, 5] (by kernel_rfl), ha.sub (by kernel_rfl)⟩
    refine W_known 162 false (by kernel_rfl) hc5645 ?_
    refine W_run 4 [(14, .slice p4876 r5438.2.length c4877), (15, .slice p4881 r5445.2.length c4882), (19, .int .i64 r5445.1), (166, .bool (!(r5606.2.2.2 == r2607.2.2.2)))] w5641 (by kernel_rfl) ?_
    refine W_nil ?_
    obtain rfl := Option.some.inj hm
    exact N_meet fun a ha => ⟨M5643.pick [3, 4, 5] (by kernel_rfl), ha.sub (by kernel_rfl)⟩
  intro a5648 w5646 ⟨M5647, hS5649⟩
  refine N_use hS5649 ?_
  have hm := hm5634
  refine N_then ?_
  rcases gx_bif hm with ⟨hc5650, hm⟩ | ⟨hc5650, hm⟩
  · refine G_cond_t (b := o5632) hc5650 (by kernel_rfl) ?_
    refine G_seq ?_
    refine G_region ?_
    refine W_run 1 [(6, .bool false)] w5646 (by kernel_rfl) ?_
    refine W_nil ?_
    refine N_then ?_
    refine G_ret ?_
    refine N_then_ret ?_
    obtain rfl := Option.some.inj hm
    refine N_ret [.bool false] (RVs_cons (RV_tmp (by kernel_rfl)) RVs_nil) ?_
    exact ⟨rfl, M5647.pick [] (by kernel_rfl)⟩
  refine G_cond_f (b := o5632) hc5650 (by kernel_rfl) ?_
  refine G_skip ?_
  refine N_then ?_
  refine G_seq ?_
  refine G_region ?_
  refine W_run 1 [(14, .slice p4876 r5438.2.length c4877), (15, .slice p4881 r5445.2.length c4882), (19, .int .i64 r5445.1), (20, .int .i64 1)] w5646 (by kernel_rfl) ?_
  refine W_nil ?_
  refine N_then ?_
  refine G_seq ?_
  refine G_region ?_
  refine W_run 2 [(15, .slice p4881 r5445.2.length c4882), (19, .int .i64 r5445.1), (20, .int .i64 1), (167, .slice p4876 r5438.2.length c4877), (168, .int .i64 1)] w5646 (by kernel_rfl) ?_
  obtain ⟨r5651, hr5651, hm⟩ := gx_bind hm
  refine W_call 29 #[.slice p4876 r5438.2.length c4877, .int .i64 1] (by kernel_rfl) (by kernel_rfl) ?_
  refine (c_l_heldIntS w5646 r5438.2 p4876 c4877 (ho5440.rd M5647 0 (by kernel_rfl)) 1 hr5651).mono ?_
  rintro e_ w5652 ⟨rfl, K5653⟩
  have M5654 := M5647.call0 K5653
  refine ⟨_, rfl, ?_⟩
  refine W_run 1 [(15, .slice p4881 r5445.2.length c4882), (19, .int .i64 r5445.1), (20, .int .i64 r5651)] w5652 (by kernel_rfl) ?_
  refine W_nil ?_
  refine N_then ?_
  refine G_seq ?_
  refine G_seq ?_
  refine G_region ?_
  refine W_run 2 [(15, .slice p4881 r5445.2.length c4882), (19, .int .i64 r5445.1), (20, .int .i64 r5651), (171, .bool (decide (r5651 < 0)))] w5652 (by kernel_rfl) ?_
  refine W_nil ?_
  refine N_then ?_
  rcases gx_bif hm with ⟨hc5655, hm⟩ | ⟨hc5655, hm⟩
  · refine G_cond_t (b := (decide (r5651 < 0))) hc5655 (by kernel_rfl) ?_
    refine G_seq ?_
    refine G_region ?_
    refine W_run 1 [(6, .bool false)] w5652 (by kernel_rfl) ?_
    refine W_nil ?_
    refine N_then ?_
    refine G_ret ?_
    refine N_then_ret ?_
    obtain rfl := Option.some.inj hm
    refine N_ret [.bool false] (RVs_cons (RV_tmp (by kernel_rfl)) RVs_nil) ?_
    exact ⟨rfl, M5654.pick [] (by kernel_rfl)⟩
  refine G_cond_f (b := (decide (r5651 < 0))) hc5655 (by kernel_rfl) ?_
  refine G_skip ?_
  refine N_then ?_
  refine G_seq ?_
  refine G_region ?_
  refine W_run 2 [(19, .int .i64 r5445.1), (20, .int .i64 r5651), (172, .slice p4881 r5445.2.length c4882), (173, .int .i64 r5651)] w5652 (by kernel_rfl) ?_
  obtain ⟨r5656, hr5656, hm⟩ := gx_bind hm
  refine W_call 26 #[.slice p4881 r5445.2.length c4882, .int .i64 r5651] (by kernel_rfl) (by kernel_rfl) ?_
  refine (c_l_heldBalloonS w5652 r5445.2 p4881 c4882 (ho5448.rd M5654 1 (by kernel_rfl) 2 (by kernel_rfl)) r5651 hr5656).mono ?_
  rintro e_ w5657 ⟨rfl, K5658⟩
  have M5659 := M5654.call0 K5658
  refine ⟨_, rfl, ?_⟩
  refine W_run 1 [(19, .int .i64 r5445.1), (20, .int .i64 r5656)] w5657 (by kernel_rfl) ?_
  refine W_nil ?_
  refine N_then ?_
  refine G_seq ?_
  refine G_seq ?_
  refine G_region ?_
  refine W_run 2 [(19, .int .i64 r5445.1), (20, .int .i64 r5656), (176, .bool (decide (r5656 < 0)))] w5657 (by kernel_rfl) ?_
  refine W_nil ?_
  refine N_then ?_
  rcases gx_bif hm with ⟨hc5660, hm⟩ | ⟨hc5660, hm⟩
  · refine G_cond_t (b := (decide (r5656 < 0))) hc5660 (by kernel_rfl) ?_
    refine G_seq ?_
    refine G_region ?_
    refine W_run 1 [(6, .bool false)] w5657 (by kernel_rfl) ?_
    refine W_nil ?_
    refine N_then ?_
    refine G_ret ?_
    refine N_then_ret ?_
    obtain rfl := Option.some.inj hm
    refine N_ret [.bool false] (RVs_cons (RV_tmp (by kernel_rfl)) RVs_nil) ?_
    exact ⟨rfl, M5659.pick [] (by kernel_rfl)⟩
  refine G_cond_f (b := (decide (r5656 < 0))) hc5660 (by kernel_rfl) ?_
  refine G_skip ?_
  refine N_then ?_
  refine G_seq ?_
  refine G_seq ?_
  refine G_region ?_
  refine W_run 3 [(179, .bool (r5656 != r5445.1))] w5657 (by kernel_rfl) ?_
  refine W_nil ?_
  refine N_then ?_
  rcases gx_bif hm with ⟨hc5661, hm⟩ | ⟨hc5661, hm⟩
  · refine G_cond_t (b := (r5656 != r5445.1)) hc5661 (by kernel_rfl) ?_
    refine G_seq ?_
    refine G_region ?_
    refine W_run 1 [(6, .bool false)] w5657 (by kernel_rfl) ?_
    refine W_nil ?_
    refine N_then ?_
    refine G_ret ?_
    refine N_then_ret ?_
    obtain rfl := Option.some.inj hm
    refine N_ret [.bool false] (RVs_cons (RV_tmp (by kernel_rfl)) RVs_nil) ?_
    exact ⟨rfl, M5659.pick [] (by kernel_rfl)⟩
  refine G_cond_f (b := (r5656 != r5445.1)) hc5661 (by kernel_rfl) ?_
  refine G_skip ?_
  refine N_then ?_
  refine G_seq ?_
  refine G_region ?_
  refine W_run 1 [(6, .bool true)] w5657 (by kernel_rfl) ?_
  refine W_nil ?_
  refine N_then ?_
  refine G_ret ?_
  obtain rfl := Option.some.inj hm
  refine N_ret [.bool true] (RVs_cons (RV_tmp (by kernel_rfl)) RVs_nil) ?_
  exact ⟨rfl, M5659.pick [] (by kernel_rfl)⟩
end Go.Proofs.Ytlfligjpmodefaa
