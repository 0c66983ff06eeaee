/- The walks, printed by program: whenever the model gives r, the call returns r. Part 2. -/
import Derived.Test.YtlfligjpmodefaaSM
import Derived.Test.YtlfligjpmodefaaProg
import Derived.Test.YtlfligjpmodefaaSh
import Derived.Test.YtlfligjpmodefaaSC1
set_option linter.unusedVariables false
set_option maxRecDepth 100000
set_option maxHeartbeats 4000000
namespace Go.Proofs.Ytlfligjpmodefaa
open Go.Gx
theorem c_i_isGoal (w : World) (x2908 : Int) {r : Bool} (hm : M.i_isGoal x2908 = some r) :
    Calls Try.prog 51 #[.int .i64 x2908] w fun e w' => e = .returned (.bool r) ∧ Mem [] w w' [] := by
  unfold M.i_isGoal at hm
  refine C_enter Try.func51 rfl (by kernel_rfl) ?_
  have M0 := Mem.refl [] w
  refine G_seq ?_
  refine G_region ?_
  refine W_run 1 [(0, .int .i64 x2908)] w (by kernel_rfl) ?_
  refine W_nil ?_
  refine N_then ?_
  refine G_seq ?_
  refine G_region ?_
  refine W_run 1 [(3, .int .i64 x2908)] w (by kernel_rfl) ?_
  obtain ⟨r2909, hr2909, hm⟩ := gx_bind hm
  refine W_call 82 #[.int .i64 x2908, .int .i64 0, .int .i64 16] (by kernel_rfl) (by kernel_rfl) ?_
  refine (c_i_inside w x2908 0 16 hr2909).mono ?_
  rintro e_ w2910 ⟨rfl, K2911⟩
  have M2912 := M0.call0 K2911
  refine ⟨_, rfl, ?_⟩
  refine W_run 1 [(2, .bool r2909)] w2910 (by kernel_rfl) ?_
  refine W_nil ?_
  refine N_then ?_
  refine G_ret ?_
  obtain rfl := Option.some.inj hm
  refine N_ret [.bool r2909] (RVs_cons (RV_tmp (by kernel_rfl)) RVs_nil) ?_
  exact ⟨rfl, M2912.pick [] (by kernel_rfl)⟩
theorem c_i_ascending (w : World) (x2920 : List Int) (p2922 : Option Addr) (c2923 : Nat) (h2924 : rdS Gx.encI w x2920 p2922 c2923) (x2925 : Int) (x2926 : Int) {r : Bool} (hm : M.i_ascending x2920 x2925 x2926 = some r) :
    Calls Try.prog 52 #[.slice p2922 x2920.length c2923, .int .i64 x2925, .int .i64 x2926] w fun e w' => e = .returned (.bool r) ∧ Mem [] w w' [] := by
  unfold M.i_ascending at hm
  refine C_enter Try.func52 rfl (by kernel_rfl) ?_
  have M0 := Mem.refl [] w
  refine G_seq ?_
  refine G_region ?_
  refine W_run 1 [(0, .slice p2922 x2920.length c2923), (1, .int .i64 x2925), (2, .int .i64 x2926)] w (by kernel_rfl) ?_
  refine W_nil ?_
  refine N_then ?_
  refine G_seq ?_
  refine G_seq ?_
  refine G_region ?_
  refine W_run 3 [(0, .slice p2922 x2920.length c2923), (1, .int .i64 x2925), (2, .int .i64 x2926), (9, .slice p2922 x2920.length c2923), (10, .int .i64 (x2920.length : Int)), (11, .int .i64 0)] w (by kernel_rfl) ?_
  refine W_nil ?_
  refine N_then ?_
  obtain ⟨out2982, hw2983, hmo2984⟩ := gx_bind hm
  refine G_meet (fun a w' => ∃ (o2985 : Unit), out2982 = .inl o2985 ∧ Mem [] w w' [] ∧ Sat Try.f52.ntmps [] a) ?_ ?_
  · refine G_block ?_
    refine G_while (σ := Int) (ρ := (Unit) ⊕ (Bool)) (fun s2975 a w' => Mem [] w w' [] ∧ Sat Try.f52.ntmps [(0, .slice p2922 x2920.length c2923), (1, .int .i64 x2925), (2, .int .i64 x2926), (9, .slice p2922 x2920.length c2923), (10, .int .i64 (x2920.length : Int)), (11, .int .i64 s2975)] a) hw2983 (fun a ha => ⟨M0.pick [] (by kernel_rfl), ha.sub (by kernel_rfl)⟩) ?_
    clear hm
    intro s2975 x2976 hm hout2977 a2978 w2979 ⟨M2980, hS2981⟩
    refine G_use hS2981 ?_
    refine G_seq ?_
    refine G_region ?_
    refine W_run 1 [(0, .slice p2922 x2920.length c2923), (1, .int .i64 x2925), (2, .int .i64 x2926), (9, .slice p2922 x2920.length c2923), (10, .int .i64 (x2920.length : Int)), (11, .int .i64 s2975), (12, .bool (decide (s2975 < (x2920.length : Int))))] w2979 (by kernel_rfl) ?_
    refine W_nil ?_
    refine N_then ?_
    refine G_seq ?_
    rcases gx_bif hm with ⟨hc2986, hm⟩ | ⟨hc2986, hm⟩
    · refine G_cond_t (b := (decide (s2975 < (x2920.length : Int)))) hc2986 (by kernel_rfl) ?_
      refine G_skip ?_
      refine N_then ?_
      refine G_seq ?_
      refine G_block ?_
      refine G_seq ?_
      refine G_region ?_
      refine W_run 1 [(0, .slice p2922 x2920.length c2923), (1, .int .i64 x2925), (2, .int .i64 x2926), (9, .slice p2922 x2920.length c2923), (10, .int .i64 (x2920.length : Int)), (11, .int .i64 s2975), (13, .int .i64 s2975)] w2979 (by kernel_rfl) ?_
      obtain ⟨y2987, hy2987, hm⟩ := gx_bind hm
      refine W_val (elemP p2922 (s2975.toNat * 1)) w2979 (by kernel_rfl) (E_index (E := Gx.encI) _ _ _ x2920.length c2923 .i64 s2975 1 (y := y2987) rfl (by kernel_rfl) (by kernel_rfl) (by kernel_rfl) (h2924.mem0 M2980) rfl hy2987) ?_
      refine W_val (.int .i64 y2987) w2979 (by kernel_rfl) (E_loadE (E := Gx.encI) _ _ false 1 s2975 0 (s2975.toNat * 1) y2987 (.int .i64 y2987) rfl (by kernel_rfl) (by kernel_rfl) (by kernel_rfl) (h2924.mem0 M2980) hy2987 rfl) ?_
      refine W_run 2 [(0, .slice p2922 x2920.length c2923), (1, .int .i64 x2925), (2, .int .i64 x2926), (7, .int .i64 s2975), (8, .int .i64 y2987), (9, .slice p2922 x2920.length c2923), (10, .int .i64 (x2920.length : Int)), (11, .int .i64 s2975)] w2979 (by kernel_rfl) ?_
      refine W_nil ?_
      refine N_then ?_
      refine G_seq ?_
      obtain ⟨o2995, ho2996, hm2997⟩ := gx_bind hm
      refine G_meet (fun a w' => Mem [] w w' [] ∧ Sat Try.f52.ntmps [(0, .slice p2922 x2920.length c2923), (1, .int .i64 x2925), (2, .int .i64 x2926), (9, .slice p2922 x2920.length c2923), (10, .int .i64 (x2920.length : Int)), (11, .int .i64 s2975), (33, .bool o2995)] a) ?_ ?_
      · have hm := ho2996
        refine G_region ?_
        refine W_run 3 [(0, .slice p2922 x2920.length c2923), (1, .int .i64 x2925), (2, .int .i64 x2926), (7, .int .i64 s2975), (8, .int .i64 y2987), (9, .slice p2922 x2920.length c2923), (10, .int .i64 (x2920.length : Int)), (11, .int .i64 s2975), (16, .int .i64 y2987), (17, .int .i64 x2925), (18, .int .i64 x2926)] w2979 (by kernel_rfl) ?_
        obtain ⟨r2998, hr2998, hm⟩ := gx_bind hm
        refine W_call 82 #[.int .i64 y2987, .int .i64 x2925, .int .i64 x2926] (by kernel_rfl) (by kernel_rfl) ?_
        refine (c_i_inside w2979 y2987 x2925 x2926 hr2998).mono ?_
        rintro e_ w2999 ⟨rfl, K3000⟩
        have M3001 := M2980.call0 K3000
        refine ⟨_, rfl, ?_⟩
        refine W_run 2 [(0, .slice p2922 x2920.length c2923), (1, .int .i64 x2925), (2, .int .i64 x2926), (7, .int .i64 s2975), (8, .int .i64 y2987), (9, .slice p2922 x2920.length c2923), (10, .int .i64 (x2920.length : Int)), (11, .int .i64 s2975), (21, .bool (!r2998))] w2999 (by kernel_rfl) ?_
        rcases gx_bif hm with ⟨hc3002, hm⟩ | ⟨hc3002, hm⟩
        · refine W_known 21 true (by kernel_rfl) hc3002 ?_
          refine W_run 12 [(0, .slice p2922 x2920.length c2923), (1, .int .i64 x2925), (2, .int .i64 x2926), (9, .slice p2922 x2920.length c2923), (10, .int .i64 (x2920.length : Int)), (11, .int .i64 s2975), (33, .bool true)] w2999 (by kernel_rfl) ?_
          refine W_nil ?_
          obtain rfl := Option.some.inj hm
          exact N_meet fun a ha => ⟨M3001.pick [] (by kernel_rfl), ha.sub (by kernel_rfl)⟩
        refine W_known 21 false (by kernel_rfl) hc3002 ?_
        refine W_run 3 [(0, .slice p2922 x2920.length c2923), (1, .int .i64 x2925), (2, .int .i64 x2926), (7, .int .i64 s2975), (8, .int .i64 y2987), (9, .slice p2922 x2920.length c2923), (10, .int .i64 (x2920.length : Int)), (11, .int .i64 s2975), (21, .bool false), (24, .bool (decide (s2975 > 0)))] w2999 (by kernel_rfl) ?_
        rcases gx_bif hm with ⟨hc3003, hm⟩ | ⟨hc3003, hm⟩
        · refine W_known 24 true (by kernel_rfl) hc3003 ?_
          refine W_run 3 [(0, .slice p2922 x2920.length c2923), (1, .int .i64 x2925), (2, .int .i64 x2926), (8, .int .i64 y2987), (9, .slice p2922 x2920.length c2923), (10, .int .i64 (x2920.length : Int)), (11, .int .i64 s2975), (21, .bool false), (24, .bool true), (25, .slice p2922 x2920.length c2923), (27, .int .i64 (w64 (s2975 - 1)))] w2999 (by kernel_rfl) ?_
          obtain ⟨y3004, hy3004, hm⟩ := gx_bind hm
          refine W_val (elemP p2922 ((w64 (s2975 - 1)).toNat * 1)) w2999 (by kernel_rfl) (E_index (E := Gx.encI) _ _ _ x2920.length c2923 .i64 (w64 (s2975 - 1)) 1 (y := y3004) rfl (by kernel_rfl) (by kernel_rfl) (by kernel_rfl) (h2924.mem0 M3001) rfl hy3004) ?_
          refine W_val (.int .i64 y3004) w2999 (by kernel_rfl) (E_loadE (E := Gx.encI) _ _ false 1 (w64 (s2975 - 1)) 0 ((w64 (s2975 - 1)).toNat * 1) y3004 (.int .i64 y3004) rfl (by kernel_rfl) (by kernel_rfl) (by kernel_rfl) (h2924.mem0 M3001) hy3004 rfl) ?_
          refine W_run 4 [(0, .slice p2922 x2920.length c2923), (1, .int .i64 x2925), (2, .int .i64 x2926), (9, .slice p2922 x2920.length c2923), (10, .int .i64 (x2920.length : Int)), (11, .int .i64 s2975), (33, .bool (decide (y3004 ≥ y2987)))] w2999 (by kernel_rfl) ?_
          refine W_nil ?_
          obtain rfl := Option.some.inj hm
          exact N_meet fun a ha => ⟨M3001.pick [] (by kernel_rfl), ha.sub (by kernel_rfl)⟩
        refine W_known 24 false (by kernel_rfl) hc3003 ?_
        refine W_run 9 [(0, .slice p2922 x2920.length c2923), (1, .int .i64 x2925), (2, .int .i64 x2926), (9, .slice p2922 x2920.length c2923), (10, .int .i64 (x2920.length : Int)), (11, .int .i64 s2975), (33, .bool false)] w2999 (by kernel_rfl) ?_
        refine W_nil ?_
        obtain rfl := Option.some.inj hm
        exact N_meet fun a ha => ⟨M3001.pick [] (by kernel_rfl), ha.sub (by kernel_rfl)⟩
      intro a3007 w3005 ⟨M3006, hS3008⟩
      refine N_use hS3008 ?_
      have hm := hm2997
      refine N_then ?_
      rcases gx_bif hm with ⟨hc3009, hm⟩ | ⟨hc3009, hm⟩
      · refine G_cond_t (b := o2995) hc3009 (by kernel_rfl) ?_
        refine G_seq ?_
        refine G_region ?_
        refine W_run 1 [(6, .bool false)] w3005 (by kernel_rfl) ?_
        refine W_nil ?_
        refine N_then ?_
        refine G_ret ?_
        refine N_block_ret ?_
        refine N_then_ret ?_
        refine N_then_ret ?_
        obtain rfl := Option.some.inj hm
        obtain rfl := hout2977 _ rfl
        have hm := hmo2984; simp only [Sum.elim_inr] at hm
        refine N_block_ret ?_
        refine N_meet_ret ?_
        refine N_then_ret ?_
        obtain rfl := Option.some.inj hm
        refine N_ret [.bool false] (RVs_cons (RV_tmp (by kernel_rfl)) RVs_nil) ?_
        exact ⟨rfl, M3006.pick [] (by kernel_rfl)⟩
      refine G_cond_f (b := o2995) hc3009 (by kernel_rfl) ?_
      refine G_skip ?_
      refine N_block ?_
      refine N_then ?_
      refine G_region ?_
      refine W_run 2 [(0, .slice p2922 x2920.length c2923), (1, .int .i64 x2925), (2, .int .i64 x2926), (9, .slice p2922 x2920.length c2923), (10, .int .i64 (x2920.length : Int)), (11, .int .i64 (w64 (s2975 + 1)))] w3005 (by kernel_rfl) ?_
      refine W_nil ?_
      obtain rfl := Option.some.inj hm
      exact N_loop fun a ha => ⟨_, rfl, M3006.pick [] (by kernel_rfl), ha.sub (by kernel_rfl)⟩
    refine G_cond_f (b := (decide (s2975 < (x2920.length : Int)))) hc2986 (by kernel_rfl) ?_
    refine G_exit ?_
    refine N_then_exit ?_
    refine N_then_exit ?_
    refine N_block_eq ?_
    obtain rfl := Option.some.inj hm
    obtain rfl := hout2977 _ rfl
    exact N_meet fun a ha => ⟨_, rfl, M2980.pick [] (by kernel_rfl), ha.sub (by kernel_rfl)⟩
  intro a3010 w3011 ⟨o2985, hout_, M3012, hS3013⟩
  refine N_use hS3013 ?_
  subst hout_
  have hm := hmo2984; simp only [Sum.elim_inl] at hm
  refine N_then ?_
  refine G_seq ?_
  refine G_region ?_
  refine W_run 1 [(6, .bool true)] w3011 (by kernel_rfl) ?_
  refine W_nil ?_
  refine N_then ?_
  refine G_ret ?_
  obtain rfl := Option.some.inj hm
  refine N_ret [.bool true] (RVs_cons (RV_tmp (by kernel_rfl)) RVs_nil) ?_
  exact ⟨rfl, M3012.pick [] (by kernel_rfl)⟩
theorem c_slices_Index_63 (w : World) (x3078 : List Int) (p3080 : Option Addr) (c3081 : Nat) (h3082 : rdS Gx.encI w x3078 p3080 c3081) (x3083 : Int) {r : Int} (hm : M.slices_Index_63 x3078 x3083 = some r) :
    Calls Try.prog 63 #[.slice p3080 x3078.length c3081, .int .i64 x3083] w fun e w' => e = .returned (.int .i64 r) ∧ Mem [] w w' [] := by
  unfold M.slices_Index_63 at hm
  refine C_enter Try.func63 rfl (by kernel_rfl) ?_
  have M0 := Mem.refl [] w
  refine G_seq ?_
  refine G_region ?_
  refine W_run 1 [(0, .slice p3080 x3078.length c3081), (1, .int .i64 x3083)] w (by kernel_rfl) ?_
  refine W_nil ?_
  refine N_then ?_
  refine G_seq ?_
  refine G_seq ?_
  refine G_region ?_
  refine W_run 3 [(0, .slice p3080 x3078.length c3081), (1, .int .i64 x3083), (7, .int .i64 (x3078.length : Int)), (8, .int .i64 0)] w (by kernel_rfl) ?_
  refine W_nil ?_
  refine N_then ?_
  obtain ⟨out3097, hw3098, hmo3099⟩ := gx_bind hm
  refine G_meet (fun a w' => ∃ (o3100 : Unit), out3097 = .inl o3100 ∧ Mem [] w w' [] ∧ Sat Try.f63.ntmps [] a) ?_ ?_
  · refine G_block ?_
    refine G_while (σ := Int) (ρ := (Unit) ⊕ (Int)) (fun s3090 a w' => Mem [] w w' [] ∧ Sat Try.f63.ntmps [(0, .slice p3080 x3078.length c3081), (1, .int .i64 x3083), (7, .int .i64 (x3078.length : Int)), (8, .int .i64 s3090)] a) hw3098 (fun a ha => ⟨M0.pick [] (by kernel_rfl), ha.sub (by kernel_rfl)⟩) ?_
    clear hm
    intro s3090 x3091 hm hout3092 a3093 w3094 ⟨M3095, hS3096⟩
    refine G_use hS3096 ?_
    refine G_seq ?_
    refine G_region ?_
    refine W_run 1 [(0, .slice p3080 x3078.length c3081), (1, .int .i64 x3083), (7, .int .i64 (x3078.length : Int)), (8, .int .i64 s3090), (9, .bool (decide (s3090 < (x3078.length : Int))))] w3094 (by kernel_rfl) ?_
    refine W_nil ?_
    refine N_then ?_
    refine G_seq ?_
    rcases gx_bif hm with ⟨hc3101, hm⟩ | ⟨hc3101, hm⟩
    · refine G_cond_t (b := (decide (s3090 < (x3078.length : Int)))) hc3101 (by kernel_rfl) ?_
      refine G_skip ?_
      refine N_then ?_
      refine G_seq ?_
      refine G_block ?_
      refine G_seq ?_
      refine G_region ?_
      refine W_run 2 [(0, .slice p3080 x3078.length c3081), (1, .int .i64 x3083), (5, .int .i64 s3090), (7, .int .i64 (x3078.length : Int)), (8, .int .i64 s3090)] w3094 (by kernel_rfl) ?_
      refine W_nil ?_
      refine N_then ?_
      refine G_seq ?_
      refine G_region ?_
      refine W_run 3 [(0, .slice p3080 x3078.length c3081), (1, .int .i64 x3083), (5, .int .i64 s3090), (7, .int .i64 (x3078.length : Int)), (8, .int .i64 s3090), (11, .int .i64 x3083), (12, .slice p3080 x3078.length c3081), (13, .int .i64 s3090)] w3094 (by kernel_rfl) ?_
      obtain ⟨y3102, hy3102, hm⟩ := gx_bind hm
      refine W_val (elemP p3080 (s3090.toNat * 1)) w3094 (by kernel_rfl) (E_index (E := Gx.encI) _ _ _ x3078.length c3081 .i64 s3090 1 (y := y3102) rfl (by kernel_rfl) (by kernel_rfl) (by kernel_rfl) (h3082.mem0 M3095) rfl hy3102) ?_
      refine W_val (.int .i64 y3102) w3094 (by kernel_rfl) (E_loadE (E := Gx.encI) _ _ false 1 s3090 0 (s3090.toNat * 1) y3102 (.int .i64 y3102) rfl (by kernel_rfl) (by kernel_rfl) (by kernel_rfl) (h3082.mem0 M3095) hy3102 rfl) ?_
      refine W_run 1 [(0, .slice p3080 x3078.length c3081), (1, .int .i64 x3083), (5, .int .i64 s3090), (7, .int .i64 (x3078.length : Int)), (8, .int .i64 s3090), (16, .bool (x3083 == y3102))] w3094 (by kernel_rfl) ?_
      refine W_nil ?_
      refine N_then ?_
      rcases gx_bif hm with ⟨hc3103, hm⟩ | ⟨hc3103, hm⟩
      · refine G_cond_t (b := (x3083 == y3102)) hc3103 (by kernel_rfl) ?_
        refine G_seq ?_
        refine G_region ?_
        refine W_run 2 [(4, .int .i64 s3090)] w3094 (by kernel_rfl) ?_
        refine W_nil ?_
        refine N_then ?_
        refine G_ret ?_
        refine N_block_ret ?_
        refine N_then_ret ?_
        refine N_then_ret ?_
        obtain rfl := Option.some.inj hm
        obtain rfl := hout3092 _ rfl
        have hm := hmo3099; simp only [Sum.elim_inr] at hm
        refine N_block_ret ?_
        refine N_meet_ret ?_
        refine N_then_ret ?_
        obtain rfl := Option.some.inj hm
        refine N_ret [.int .i64 s3090] (RVs_cons (RV_tmp (by kernel_rfl)) RVs_nil) ?_
        exact ⟨rfl, M3095.pick [] (by kernel_rfl)⟩
      refine G_cond_f (b := (x3083 == y3102)) hc3103 (by kernel_rfl) ?_
      refine G_skip ?_
      refine N_block ?_
      refine N_then ?_
      refine G_region ?_
      refine W_run 2 [(0, .slice p3080 x3078.length c3081), (1, .int .i64 x3083), (7, .int .i64 (x3078.length : Int)), (8, .int .i64 (w64 (s3090 + 1)))] w3094 (by kernel_rfl) ?_
      refine W_nil ?_
      obtain rfl := Option.some.inj hm
      exact N_loop fun a ha => ⟨_, rfl, M3095.pick [] (by kernel_rfl), ha.sub (by kernel_rfl)⟩
    refine G_cond_f (b := (decide (s3090 < (x3078.length : Int)))) hc3101 (by kernel_rfl) ?_
    refine G_exit ?_
    refine N_then_exit ?_
    refine N_then_exit ?_
    refine N_block_eq ?_
    obtain rfl := Option.some.inj hm
    obtain rfl := hout3092 _ rfl
    exact N_meet fun a ha => ⟨_, rfl, M3095.pick [] (by kernel_rfl), ha.sub (by kernel_rfl)⟩
  intro a3104 w3105 ⟨o3100, hout_, M3106, hS3107⟩
  refine N_use hS3107 ?_
  subst hout_
  have hm := hmo3099; simp only [Sum.elim_inl] at hm
  refine N_then ?_
  refine G_seq ?_
  refine G_region ?_
  refine W_run 1 [(4, .int .i64 (-1))] w3105 (by kernel_rfl) ?_
  refine W_nil ?_
  refine N_then ?_
  refine G_ret ?_
  obtain rfl := Option.some.inj hm
  refine N_ret [.int .i64 (-1)] (RVs_cons (RV_tmp (by kernel_rfl)) RVs_nil) ?_
  exact ⟨rfl, M3106.pick [] (by kernel_rfl)⟩
theorem c_slices_Contains_53 (w : World) (x3072 : List Int) (p3074 : Option Addr) (c3075 : Nat) (h3076 : rdS Gx.encI w x3072 p3074 c3075) (x3077 : Int) {r : Bool} (hm : M.slices_Contains_53 x3072 x3077 = some r) :
    Calls Try.prog 53 #[.slice p3074 x3072.length c3075, .int .i64 x3077] w fun e w' => e = .returned (.bool r) ∧ Mem [] w w' [] := by
  unfold M.slices_Contains_53 at hm
  refine C_enter Try.func53 rfl (by kernel_rfl) ?_
  have M0 := Mem.refl [] w
  refine G_seq ?_
  refine G_region ?_
  refine W_run 1 [(0, .slice p3074 x3072.length c3075), (1, .int .i64 x3077)] w (by kernel_rfl) ?_
  refine W_nil ?_
  refine N_then ?_
  refine G_seq ?_
  refine G_region ?_
  refine W_run 2 [(5, .slice p3074 x3072.length c3075), (6, .int .i64 x3077)] w (by kernel_rfl) ?_
  obtain ⟨r3108, hr3108, hm⟩ := gx_bind hm
  refine W_call 63 #[.slice p3074 x3072.length c3075, .int .i64 x3077] (by kernel_rfl) (by kernel_rfl) ?_
  refine (c_slices_Index_63 w x3072 p3074 c3075 (h3076.mem0 M0) x3077 hr3108).mono ?_
  rintro e_ w3109 ⟨rfl, K3110⟩
  have M3111 := M0.call0 K3110
  refine ⟨_, rfl, ?_⟩
  refine W_run 2 [(4, .bool (decide (r3108 ≥ 0)))] w3109 (by kernel_rfl) ?_
  refine W_nil ?_
  refine N_then ?_
  refine G_ret ?_
  obtain rfl := Option.some.inj hm
  refine N_ret [.bool (decide (r3108 ≥ 0))] (RVs_cons (RV_tmp (by kernel_rfl)) RVs_nil) ?_
  exact ⟨rfl, M3111.pick [] (by kernel_rfl)⟩
theorem c_i_AreBalloons (w : World) (x2761 : List Int) (p2763 : Option Addr) (c2764 : Nat) (h2765 : rdS Gx.encI w x2761 p2763 c2764) (x2766 : List Balloon) (p2768 : Option Addr) (c2769 : Nat) (h2770 : rdD deepBalloon w x2766 p2768 c2769) {r : Bool} (hm : M.i_AreBalloons x2761 x2766 = some r) :
    Calls Try.prog 17 #[.slice p2763 x2761.length c2764, .slice p2768 x2766.length c2769] w fun e w' => e = .returned (.bool r) ∧ Mem [] w w' [] := by
  unfold M.i_AreBalloons at hm
  refine C_enter Try.func17 rfl (by kernel_rfl) ?_
  have M0 := Mem.refl [] w
  refine G_seq ?_
  refine G_region ?_
  refine W_run 1 [(0, .slice p2763 x2761.length c2764), (1, .slice p2768 x2766.length c2769)] w (by kernel_rfl) ?_
  refine W_nil ?_
  refine N_then ?_
  refine G_seq ?_
  refine G_seq ?_
  refine G_region ?_
  refine W_run 1 [(0, .slice p2763 x2761.length c2764), (1, .slice p2768 x2766.length c2769), (10, .slice p2763 x2761.length c2764)] w (by kernel_rfl) ?_
  obtain ⟨r2868, hr2868, hm⟩ := gx_bind hm
  refine W_call 49 #[.slice p2763 x2761.length c2764] (by kernel_rfl) (by kernel_rfl) ?_
  refine (c_i_AreOwners w x2761 p2763 c2764 (h2765.mem0 M0) hr2868).mono ?_
  rintro e_ w2869 ⟨rfl, K2870⟩
  have M2871 := M0.call0 K2870
  refine ⟨_, rfl, ?_⟩
  refine W_run 1 [(0, .slice p2763 x2761.length c2764), (1, .slice p2768 x2766.length c2769), (12, .bool (!r2868))] w2869 (by kernel_rfl) ?_
  refine W_nil ?_
  refine N_then ?_
  rcases gx_bif hm with ⟨hc2872, hm⟩ | ⟨hc2872, hm⟩
  · refine G_cond_t (b := (!r2868)) hc2872 (by kernel_rfl) ?_
    refine G_seq ?_
    refine G_region ?_
    refine W_run 1 [(4, .bool false)] w2869 (by kernel_rfl) ?_
    refine W_nil ?_
    refine N_then ?_
    refine G_ret ?_
    refine N_then_ret ?_
    obtain rfl := Option.some.inj hm
    refine N_ret [.bool false] (RVs_cons (RV_tmp (by kernel_rfl)) RVs_nil) ?_
    exact ⟨rfl, M2871.pick [] (by kernel_rfl)⟩
  refine G_cond_f (b := (!r2868)) hc2872 (by kernel_rfl) ?_
  refine G_skip ?_
  refine N_then ?_
  refine G_seq ?_
  refine G_region ?_
  refine W_lit (E := Gx.encI) ([] : List Int) 0 [] 3 M2871 (by kernel_rfl) (by kernel_rfl) (by kernel_rfl) (by kernel_rfl) (by kernel_rfl) ?_
  intro p2873 c2874 sg2875 w2876 ho2877 M2878
  refine W_run 1 [(0, .slice p2763 x2761.length c2764), (1, .slice p2768 x2766.length c2769), (5, .slice p2873 ([] : List Int).length c2874)] w2876 (by kernel_rfl) ?_
  refine W_nil ?_
  refine N_then ?_
  refine G_seq ?_
  refine G_seq ?_
  refine G_region ?_
  refine W_run 3 [(0, .slice p2763 x2761.length c2764), (1, .slice p2768 x2766.length c2769), (5, .slice p2873 ([] : List Int).length c2874), (14, .slice p2768 x2766.length c2769), (15, .int .i64 (x2766.length : Int)), (16, .int .i64 0)] w2876 (by kernel_rfl) ?_
  refine W_nil ?_
  refine N_then ?_
  obtain ⟨out3486, hw3487, hmo3488⟩ := gx_bind hm
  refine G_meet (fun a w' => ∃ (o3494 : Unit), out3486 = .inl o3494 ∧ Mem [] w w' [] ∧ Sat Try.f17.ntmps [] a) ?_ ?_
  · refine G_block ?_
    refine G_while (σ := List Int × Int) (ρ := (Unit) ⊕ (Bool)) (fun s3479 a w' => ∃ (p3489 : Option Addr), ∃ (c3490 : Nat), ∃ (sg3491 : Seg), ownS Gx.encI s3479.1 p3489 c3490 sg3491 ∧ Mem [] w w' [sg3491] ∧ Sat Try.f17.ntmps [(0, .slice p2763 x2761.length c2764), (1, .slice p2768 x2766.length c2769), (5, .slice p3489 s3479.1.length c3490), (14, .slice p2768 x2766.length c2769), (15, .int .i64 (x2766.length : Int)), (16, .int .i64 s3479.2)] a) hw3487 (fun a ha => ⟨p2873, c2874, sg2875, ho2877, M2878.pick [0] (by kernel_rfl), ha.sub (by kernel_rfl)⟩) ?_
    clear hm
    intro s3479 x3480 hm hout3481 a3482 w3483 ⟨p3489, c3490, sg3491, ho3492, M3484, hS3485⟩
    refine G_use hS3485 ?_
    refine G_seq ?_
    refine G_region ?_
    refine W_run 1 [(0, .slice p2763 x2761.length c2764), (1, .slice p2768 x2766.length c2769), (5, .slice p3489 s3479.1.length c3490), (14, .slice p2768 x2766.length c2769), (15, .int .i64 (x2766.length : Int)), (16, .int .i64 s3479.2), (17, .bool (decide (s3479.2 < (x2766.length : Int))))] w3483 (by kernel_rfl) ?_
    refine W_nil ?_
    refine N_then ?_
    refine G_seq ?_
    rcases gx_bif hm with ⟨hc3495, hm⟩ | ⟨hc3495, hm⟩
    · refine G_cond_t (b := (decide (s3479.2 < (x2766.length : Int)))) hc3495 (by kernel_rfl) ?_
      refine G_skip ?_
      refine N_then ?_
      refine G_seq ?_
      refine G_block ?_
      refine G_seq ?_
      refine G_region ?_
      refine W_run 1 [(0, .slice p2763 x2761.length c2764), (1, .slice p2768 x2766.length c2769), (5, .slice p3489 s3479.1.length c3490), (14, .slice p2768 x2766.length c2769), (15, .int .i64 (x2766.length : Int)), (16, .int .i64 s3479.2), (18, .int .i64 s3479.2)] w3483 (by kernel_rfl) ?_
      obtain ⟨y3496, hy3496, hm⟩ := gx_bind hm
      obtain ⟨zs3497, hz3498, hr3499, hi3500⟩ := id h2770
      obtain ⟨g3501, hg3502⟩ := gxIdx_fst hz3498 hy3496
      refine W_val (elemP p2768 (s3479.2.toNat * 3)) w3483 (by kernel_rfl) (E_index (E := deepBalloon.E) _ _ _ x2766.length c2769 .i64 s3479.2 3 (y := (y3496, g3501)) rfl (by kernel_rfl) (by kernel_rfl) (by kernel_rfl) (hr3499.mem0 M3484) (len_fst hz3498) hg3502) ?_
      refine W_val (.agg #[.int .i64 y3496.Guest, .int .i64 y3496.Goal, .slice ((g3501 0).1) y3496.Gave.length ((g3501 0).2)]) w3483 (by kernel_rfl) (E_loadE (E := deepBalloon.E) _ _ true 3 s3479.2 0 (s3479.2.toNat * 3) (y3496, g3501) (.agg #[.int .i64 y3496.Guest, .int .i64 y3496.Goal, .slice ((g3501 0).1) y3496.Gave.length ((g3501 0).2)]) rfl (by kernel_rfl) (by kernel_rfl) (by kernel_rfl) (hr3499.mem0 M3484) hg3502 rfl) ?_
      refine W_new (fun b => .pointer (some ⟨b, 0, none⟩)) (.cells ⟨[.int .i64 0, .int .i64 0, .slice none 0 0]⟩ 50 (0, 0)) M3484 rfl (by kernel_rfl) (by kernel_rfl) ?_
      intro b3506 w3507 M3508
      refine W_run 1 [(0, .slice p2763 x2761.length c2764), (1, .slice p2768 x2766.length c2769), (5, .slice p3489 s3479.1.length c3490), (6, .int .i64 s3479.2), (7, .pointer (some ⟨b3506, 0, none⟩)), (14, .slice p2768 x2766.length c2769), (15, .int .i64 (x2766.length : Int)), (16, .int .i64 s3479.2), (20, .agg #[.int .i64 y3496.Guest, .int .i64 y3496.Goal, .slice ((g3501 0).1) y3496.Gave.length ((g3501 0).2)])] w3507 (by kernel_rfl) ?_
      refine W_store _ _ _ true 3 b3506 0 [.int .i64 0, .int .i64 0, .slice none 0 0] 50 (.agg #[.int .i64 y3496.Guest, .int .i64 y3496.Goal, .slice ((g3501 0).1) y3496.Gave.length ((g3501 0).2)]) 1 [.int .i64 y3496.Guest, .int .i64 y3496.Goal, .slice ((g3501 0).1) y3496.Gave.length ((g3501 0).2)] M3508 (by kernel_rfl) rfl (by kernel_rfl) (by kernel_rfl) (by kernel_rfl) (by kernel_rfl) (by kernel_rfl) (by kernel_rfl) (by kernel_rfl) (by kernel_rfl) ?_
      intro w3509 M3510
      refine W_nil ?_
      refine N_then ?_
      refine G_seq ?_
      refine G_seq ?_
      obtain ⟨o3541, ho3542, hm3543⟩ := gx_bind hm
      refine G_meet (fun a w' => Mem [] w w' [sg3491, [(b3506, .cells ⟨[.int .i64 y3496.Guest, .int .i64 y3496.Goal, .slice ((g3501 0).1) y3496.Gave.length ((g3501 0).2)]⟩ 50 (0, 0))]] ∧ Sat Try.f17.ntmps [(0, .slice p2763 x2761.length c2764), (1, .slice p2768 x2766.length c2769), (5, .slice p3489 s3479.1.length c3490), (7, .pointer (some ⟨b3506, 0, none⟩)), (14, .slice p2768 x2766.length c2769), (15, .int .i64 (x2766.length : Int)), (16, .int .i64 s3479.2), (54, .bool o3541)] a) ?_ ?_
      · have hm := ho3542
        refine G_quiet (by kernel_rfl) (by kernel_rfl) M3510 ?_
        refine Z_runs [.pointer (some ⟨b3506, 0, none⟩)] [(0, .slice p2763 x2761.length c2764), (1, .slice p2768 x2766.length c2769), (5, .slice p3489 s3479.1.length c3490), (6, .int .i64 s3479.2), (7, .pointer (some ⟨b3506, 0, none⟩)), (14, .slice p2768 x2766.length c2769), (15, .int .i64 (x2766.length : Int)), (16, .int .i64 s3479.2), (21, .pointer (some ⟨b3506, 0, none⟩))] (fun w_ => by kernel_rfl) (by kernel_rfl) ?_
        refine Z_val (.int .i64 y3496.Guest) (by kernel_rfl) (fun w_ M_ => (E_load (e := 50) (fr := (0, 0)) _ _ false 1 b3506 0 [.int .i64 y3496.Guest, .int .i64 y3496.Goal, .slice ((g3501 0).1) y3496.Gave.length ((g3501 0).2)] (.int .i64 y3496.Guest) rfl (by kernel_rfl) (by kernel_rfl) (by kernel_rfl) (M_.blk 1 (b := b3506) (o := .cells ⟨[.int .i64 y3496.Guest, .int .i64 y3496.Goal, .slice ((g3501 0).1) y3496.Gave.length ((g3501 0).2)]⟩ 50 (0, 0)) (by kernel_rfl)))) ?_
        obtain ⟨r3544, hr3544, hm⟩ := gx_bind hm
        refine Z_call 50 #[.int .i64 y3496.Guest] (.bool r3544) (by kernel_rfl) (fun w_ => by kernel_rfl) (fun w_ M_ => (c_i_isGuest w_ y3496.Guest hr3544).mono fun e w2_ h_ => ⟨h_.1, M_.call0 h_.2⟩) ?_
        refine Z_runs [.bool (!r3544), .bool (!r3544)] [(0, .slice p2763 x2761.length c2764), (1, .slice p2768 x2766.length c2769), (5, .slice p3489 s3479.1.length c3490), (6, .int .i64 s3479.2), (7, .pointer (some ⟨b3506, 0, none⟩)), (14, .slice p2768 x2766.length c2769), (15, .int .i64 (x2766.length : Int)), (16, .int .i64 s3479.2), (25, .bool (!r3544))] (fun w_ => by kernel_rfl) (by kernel_rfl) ?_
        rcases gx_bif hm with ⟨hc3548, hm⟩ | ⟨hc3548, hm⟩
        · refine Z_known 25 true (by kernel_rfl) hc3548 ?_
          refine Z_runs [undef, undef, undef, undef, .bool true, .bool true, undef, undef, undef, undef, undef, undef, undef, .bool true, .bool true, undef, undef, undef, undef, undef, undef, undef, undef, undef, undef, undef, undef, undef, .bool true] [(0, .slice p2763 x2761.length c2764), (1, .slice p2768 x2766.length c2769), (5, .slice p3489 s3479.1.length c3490), (7, .pointer (some ⟨b3506, 0, none⟩)), (14, .slice p2768 x2766.length c2769), (15, .int .i64 (x2766.length : Int)), (16, .int .i64 s3479.2), (54, .bool true)] (fun w_ => by kernel_rfl) (by kernel_rfl) ?_
          refine Z_end fun w3549 M3550 => ?_
          obtain rfl := Option.some.inj hm
          exact N_meet fun a ha => ⟨M3550.pick [0, 1] (by kernel_rfl), ha.sub (by kernel_rfl)⟩
        refine Z_known 25 false (by kernel_rfl) hc3548 ?_
        refine Z_runs [.pointer (some ⟨b3506, 1, none⟩)] [(0, .slice p2763 x2761.length c2764), (1, .slice p2768 x2766.length c2769), (5, .slice p3489 s3479.1.length c3490), (6, .int .i64 s3479.2), (7, .pointer (some ⟨b3506, 0, none⟩)), (14, .slice p2768 x2766.length c2769), (15, .int .i64 (x2766.length : Int)), (16, .int .i64 s3479.2), (25, .bool false), (26, .pointer (some ⟨b3506, 1, none⟩))] (fun w_ => by kernel_rfl) (by kernel_rfl) ?_
        refine Z_val (.int .i64 y3496.Goal) (by kernel_rfl) (fun w_ M_ => (E_load (e := 50) (fr := (0, 0)) _ _ false 1 b3506 1 [.int .i64 y3496.Guest, .int .i64 y3496.Goal, .slice ((g3501 0).1) y3496.Gave.length ((g3501 0).2)] (.int .i64 y3496.Goal) rfl (by kernel_rfl) (by kernel_rfl) (by kernel_rfl) (M_.blk 1 (b := b3506) (o := .cells ⟨[.int .i64 y3496.Guest, .int .i64 y3496.Goal, .slice ((g3501 0).1) y3496.Gave.length ((g3501 0).2)]⟩ 50 (0, 0)) (by kernel_rfl)))) ?_
        obtain ⟨r3551, hr3551, hm⟩ := gx_bind hm
        refine Z_call 51 #[.int .i64 y3496.Goal] (.bool r3551) (by kernel_rfl) (fun w_ => by kernel_rfl) (fun w_ M_ => (c_i_isGoal w_ y3496.Goal hr3551).mono fun e w2_ h_ => ⟨h_.1, M_.call0 h_.2⟩) ?_
        refine Z_runs [.bool (!r3551), .bool (!r3551), .bool (!r3551)] [(0, .slice p2763 x2761.length c2764), (1, .slice p2768 x2766.length c2769), (5, .slice p3489 s3479.1.length c3490), (6, .int .i64 s3479.2), (7, .pointer (some ⟨b3506, 0, none⟩)), (14, .slice p2768 x2766.length c2769), (15, .int .i64 (x2766.length : Int)), (16, .int .i64 s3479.2), (31, .bool (!r3551))] (fun w_ => by kernel_rfl) (by kernel_rfl) ?_
        rcases gx_bif hm with ⟨hc3555, hm⟩ | ⟨hc3555, hm⟩
        · refine Z_known 31 true (by kernel_rfl) hc3555 ?_
          refine Z_runs [undef, undef, undef, undef, undef, undef, undef, .bool true, .bool true, undef, undef, undef, undef, undef, undef, undef, undef, undef, undef, undef, undef, undef, .bool true] [(0, .slice p2763 x2761.length c2764), (1, .slice p2768 x2766.length c2769), (5, .slice p3489 s3479.1.length c3490), (7, .pointer (some ⟨b3506, 0, none⟩)), (14, .slice p2768 x2766.length c2769), (15, .int .i64 (x2766.length : Int)), (16, .int .i64 s3479.2), (54, .bool true)] (fun w_ => by kernel_rfl) (by kernel_rfl) ?_
          refine Z_end fun w3556 M3557 => ?_
          obtain rfl := Option.some.inj hm
          exact N_meet fun a ha => ⟨M3557.pick [0, 1] (by kernel_rfl), ha.sub (by kernel_rfl)⟩
        refine Z_known 31 false (by kernel_rfl) hc3555 ?_
        refine Z_runs [.pointer (some ⟨b3506, 2, none⟩)] [(0, .slice p2763 x2761.length c2764), (1, .slice p2768 x2766.length c2769), (5, .slice p3489 s3479.1.length c3490), (6, .int .i64 s3479.2), (7, .pointer (some ⟨b3506, 0, none⟩)), (14, .slice p2768 x2766.length c2769), (15, .int .i64 (x2766.length : Int)), (16, .int .i64 s3479.2), (31, .bool false), (32, .pointer (some ⟨b3506, 2, none⟩))] (fun w_ => by kernel_rfl) (by kernel_rfl) ?_
        refine Z_val (.slice ((g3501 0).1) y3496.Gave.length ((g3501 0).2)) (by kernel_rfl) (fun w_ M_ => (E_load (e := 50) (fr := (0, 0)) _ _ false 1 b3506 2 [.int .i64 y3496.Guest, .int .i64 y3496.Goal, .slice ((g3501 0).1) y3496.Gave.length ((g3501 0).2)] (.slice ((g3501 0).1) y3496.Gave.length ((g3501 0).2)) rfl (by kernel_rfl) (by kernel_rfl) (by kernel_rfl) (M_.blk 1 (b := b3506) (o := .cells ⟨[.int .i64 y3496.Guest, .int .i64 y3496.Goal, .slice ((g3501 0).1) y3496.Gave.length ((g3501 0).2)]⟩ 50 (0, 0)) (by kernel_rfl)))) ?_
        refine Z_runs [.slice p2763 x2761.length c2764, .int .i64 (x2761.length : Int), .int .i64 (w64 ((x2761.length : Int) - 1))] [(0, .slice p2763 x2761.length c2764), (1, .slice p2768 x2766.length c2769), (5, .slice p3489 s3479.1.length c3490), (6, .int .i64 s3479.2), (7, .pointer (some ⟨b3506, 0, none⟩)), (14, .slice p2768 x2766.length c2769), (15, .int .i64 (x2766.length : Int)), (16, .int .i64 s3479.2), (31, .bool false), (33, .slice ((g3501 0).1) y3496.Gave.length ((g3501 0).2)), (36, .int .i64 (w64 ((x2761.length : Int) - 1)))] (fun w_ => by kernel_rfl) (by kernel_rfl) ?_
        obtain ⟨r3558, hr3558, hm⟩ := gx_bind hm
        refine Z_call 52 #[.slice ((g3501 0).1) y3496.Gave.length ((g3501 0).2), .int .i64 0, .int .i64 (w64 ((x2761.length : Int) - 1))] (.bool r3558) (by kernel_rfl) (fun w_ => by kernel_rfl) (fun w_ M_ => (c_i_ascending w_ y3496.Gave ((g3501 0).1) ((g3501 0).2) ((hi3500.mem0 M_).at_ hg3502 0 ⟨Int, Gx.encI, y3496.Gave, (g3501 0).1, (g3501 0).2⟩ (by kernel_rfl)) 0 (w64 ((x2761.length : Int) - 1)) hr3558).mono fun e w2_ h_ => ⟨h_.1, M_.call0 h_.2⟩) ?_
        refine Z_runs [.bool (!r3558), .bool (!r3558), .bool (!r3558)] [(0, .slice p2763 x2761.length c2764), (1, .slice p2768 x2766.length c2769), (5, .slice p3489 s3479.1.length c3490), (6, .int .i64 s3479.2), (7, .pointer (some ⟨b3506, 0, none⟩)), (14, .slice p2768 x2766.length c2769), (15, .int .i64 (x2766.length : Int)), (16, .int .i64 s3479.2), (40, .bool (!r3558))] (fun w_ => by kernel_rfl) (by kernel_rfl) ?_
        rcases gx_bif hm with ⟨hc3562, hm⟩ | ⟨hc3562, hm⟩
        · refine Z_known 40 true (by kernel_rfl) hc3562 ?_
          refine Z_runs [undef, undef, undef, undef, undef, undef, undef, undef, undef, undef, undef, undef, undef, .bool true] [(0, .slice p2763 x2761.length c2764), (1, .slice p2768 x2766.length c2769), (5, .slice p3489 s3479.1.length c3490), (7, .pointer (some ⟨b3506, 0, none⟩)), (14, .slice p2768 x2766.length c2769), (15, .int .i64 (x2766.length : Int)), (16, .int .i64 s3479.2), (54, .bool true)] (fun w_ => by kernel_rfl) (by kernel_rfl) ?_
          refine Z_end fun w3563 M3564 => ?_
          obtain rfl := Option.some.inj hm
          exact N_meet fun a ha => ⟨M3564.pick [0, 1] (by kernel_rfl), ha.sub (by kernel_rfl)⟩
        refine Z_known 40 false (by kernel_rfl) hc3562 ?_
        refine Z_runs [.int .i64 s3479.2, .bool (decide (s3479.2 > 0)), .bool (decide (s3479.2 > 0))] [(0, .slice p2763 x2761.length c2764), (1, .slice p2768 x2766.length c2769), (5, .slice p3489 s3479.1.length c3490), (6, .int .i64 s3479.2), (7, .pointer (some ⟨b3506, 0, none⟩)), (14, .slice p2768 x2766.length c2769), (15, .int .i64 (x2766.length : Int)), (16, .int .i64 s3479.2), (40, .bool false), (43, .bool (decide (s3479.2 > 0)))] (fun w_ => by kernel_rfl) (by kernel_rfl) ?_
        rcases gx_bif hm with ⟨hc3565, hm⟩ | ⟨hc3565, hm⟩
        · refine Z_known 43 true (by kernel_rfl) hc3565 ?_
          refine Z_runs [.slice p2768 x2766.length c2769, .int .i64 s3479.2, .int .i64 (w64 (s3479.2 - 1))] [(0, .slice p2763 x2761.length c2764), (1, .slice p2768 x2766.length c2769), (5, .slice p3489 s3479.1.length c3490), (7, .pointer (some ⟨b3506, 0, none⟩)), (14, .slice p2768 x2766.length c2769), (15, .int .i64 (x2766.length : Int)), (16, .int .i64 s3479.2), (40, .bool false), (43, .bool true), (44, .slice p2768 x2766.length c2769), (46, .int .i64 (w64 (s3479.2 - 1)))] (fun w_ => by kernel_rfl) (by kernel_rfl) ?_
          obtain ⟨y3566, hy3566, hm⟩ := gx_bind hm
          obtain ⟨g3567, hg3568⟩ := gxIdx_fst hz3498 hy3566
          refine Z_val (elemP p2768 ((w64 (s3479.2 - 1)).toNat * 3)) (by kernel_rfl) (fun w_ M_ => (E_index (E := deepBalloon.E) _ _ _ x2766.length c2769 .i64 (w64 (s3479.2 - 1)) 3 (y := (y3566, g3567)) rfl (by kernel_rfl) (by kernel_rfl) (by kernel_rfl) (hr3499.mem0 M_) (len_fst hz3498) hg3568)) ?_
          refine Z_val (elemP p2768 ((w64 (s3479.2 - 1)).toNat * 3 + 0)) (by kernel_rfl) (fun w_ M_ => (E_fieldE (E := deepBalloon.E) _ _ 0 ((w64 (s3479.2 - 1)).toNat * 3) 0 rfl (by kernel_rfl) (by kernel_rfl) (hr3499.mem0 M_) hg3568)) ?_
          refine Z_val (.int .i64 y3566.Guest) (by kernel_rfl) (fun w_ M_ => (E_loadE (E := deepBalloon.E) _ _ false 1 (w64 (s3479.2 - 1)) 0 ((w64 (s3479.2 - 1)).toNat * 3 + 0) (y3566, g3567) (.int .i64 y3566.Guest) rfl (by kernel_rfl) (by kernel_rfl) (by kernel_rfl) (hr3499.mem0 M_) hg3568 rfl)) ?_
          refine Z_runs [.pointer (some ⟨b3506, 0, none⟩)] [(0, .slice p2763 x2761.length c2764), (1, .slice p2768 x2766.length c2769), (5, .slice p3489 s3479.1.length c3490), (7, .pointer (some ⟨b3506, 0, none⟩)), (14, .slice p2768 x2766.length c2769), (15, .int .i64 (x2766.length : Int)), (16, .int .i64 s3479.2), (40, .bool false), (43, .bool true), (49, .int .i64 y3566.Guest), (50, .pointer (some ⟨b3506, 0, none⟩))] (fun w_ => by kernel_rfl) (by kernel_rfl) ?_
          refine Z_val (.int .i64 y3496.Guest) (by kernel_rfl) (fun w_ M_ => (E_load (e := 50) (fr := (0, 0)) _ _ false 1 b3506 0 [.int .i64 y3496.Guest, .int .i64 y3496.Goal, .slice ((g3501 0).1) y3496.Gave.length ((g3501 0).2)] (.int .i64 y3496.Guest) rfl (by kernel_rfl) (by kernel_rfl) (by kernel_rfl) (M_.blk 1 (b := b3506) (o := .cells ⟨[.int .i64 y3496.Guest, .int .i64 y3496.Goal, .slice ((g3501 0).1) y3496.Gave.length ((g3501 0).2)]⟩ 50 (0, 0)) (by kernel_rfl)))) ?_
          refine Z_runs [.bool (decide (y3566.Guest ≥ y3496.Guest)), .bool (decide (y3566.Guest ≥ y3496.Guest)), .bool (decide (y3566.Guest ≥ y3496.Guest))] [(0, .slice p2763 x2761.length c2764), (1, .slice p2768 x2766.length c2769), (5, .slice p3489 s3479.1.length c3490), (7, .pointer (some ⟨b3506, 0, none⟩)), (14, .slice p2768 x2766.length c2769), (15, .int .i64 (x2766.length : Int)), (16, .int .i64 s3479.2), (54, .bool (decide (y3566.Guest ≥ y3496.Guest)))] (fun w_ => by kernel_rfl) (by kernel_rfl) ?_
          refine Z_end fun w3570 M3571 => ?_
          obtain rfl := Option.some.inj hm
          exact N_meet fun a ha => ⟨M3571.pick [0, 1] (by kernel_rfl), ha.sub (by kernel_rfl)⟩
        refine Z_known 43 false (by kernel_rfl) hc3565 ?_
        refine Z_runs [undef, undef, undef, undef, undef, undef, undef, undef, undef, .bool false, .bool false] [(0, .slice p2763 x2761.length c2764), (1, .slice p2768 x2766.length c2769), (5, .slice p3489 s3479.1.length c3490), (7, .pointer (some ⟨b3506, 0, none⟩)), (14, .slice p2768 x2766.length c2769), (15, .int .i64 (x2766.length : Int)), (16, .int .i64 s3479.2), (54, .bool false)] (fun w_ => by kernel_rfl) (by kernel_rfl) ?_
        refine Z_end fun w3572 M3573 => ?_
        obtain rfl := Option.some.inj hm
        exact N_meet fun a ha => ⟨M3573.pick [0, 1] (by kernel_rfl), ha.sub (by kernel_rfl)⟩
      intro a3576 w3574 ⟨M3575, hS3577⟩
      refine N_use hS3577 ?_
      have hm := hm3543
      refine N_then ?_
      rcases gx_bif hm with ⟨hc3578, hm⟩ | ⟨hc3578, hm⟩
      · refine G_cond_t (b := o3541) hc3578 (by kernel_rfl) ?_
        refine G_seq ?_
        refine G_region ?_
        refine W_run 1 [(4, .bool false)] w3574 (by kernel_rfl) ?_
        refine W_nil ?_
        refine N_then ?_
        refine G_ret ?_
        refine N_then_ret ?_
        refine N_block_ret ?_
        refine N_then_ret ?_
        refine N_then_ret ?_
        obtain rfl := Option.some.inj hm
        obtain rfl := hout3481 _ rfl
        have hm := hmo3488; simp only [Sum.elim_inr] at hm
        refine N_block_ret ?_
        refine N_meet_ret ?_
        refine N_then_ret ?_
        obtain rfl := Option.some.inj hm
        refine N_ret [.bool false] (RVs_cons (RV_tmp (by kernel_rfl)) RVs_nil) ?_
        exact ⟨rfl, M3575.pick [] (by kernel_rfl)⟩
      refine G_cond_f (b := o3541) hc3578 (by kernel_rfl) ?_
      refine G_skip ?_
      refine N_then ?_
      refine G_seq ?_
      refine G_region ?_
      refine W_run 1 [(0, .slice p2763 x2761.length c2764), (1, .slice p2768 x2766.length c2769), (5, .slice p3489 s3479.1.length c3490), (14, .slice p2768 x2766.length c2769), (15, .int .i64 (x2766.length : Int)), (16, .int .i64 s3479.2), (55, .pointer (some ⟨b3506, 2, none⟩))] w3574 (by kernel_rfl) ?_
      refine W_val (.slice ((g3501 0).1) y3496.Gave.length ((g3501 0).2)) w3574 (by kernel_rfl) (E_load (e := 50) (fr := (0, 0)) _ _ false 1 b3506 2 [.int .i64 y3496.Guest, .int .i64 y3496.Goal, .slice ((g3501 0).1) y3496.Gave.length ((g3501 0).2)] (.slice ((g3501 0).1) y3496.Gave.length ((g3501 0).2)) rfl (by kernel_rfl) (by kernel_rfl) (by kernel_rfl) (M3575.blk 1 (b := b3506) (o := .cells ⟨[.int .i64 y3496.Guest, .int .i64 y3496.Goal, .slice ((g3501 0).1) y3496.Gave.length ((g3501 0).2)]⟩ 50 (0, 0)) (by kernel_rfl))) ?_
      refine W_run 2 [(0, .slice p2763 x2761.length c2764), (1, .slice p2768 x2766.length c2769), (5, .slice p3489 s3479.1.length c3490), (14, .slice p2768 x2766.length c2769), (15, .int .i64 (x2766.length : Int)), (16, .int .i64 s3479.2), (56, .slice ((g3501 0).1) y3496.Gave.length ((g3501 0).2)), (57, .int .i64 (y3496.Gave.length : Int)), (58, .int .i64 0)] w3574 (by kernel_rfl) ?_
      refine W_nil ?_
      refine N_then ?_
      obtain ⟨out3665, hw3666, hmo3667⟩ := gx_bind hm
      refine G_meet (fun a w' => ∃ (o3673 : List Int), ∃ (p3674 : Option Addr), ∃ (c3675 : Nat), ∃ (sg3676 : Seg), ownS Gx.encI o3673 p3674 c3675 sg3676 ∧ out3665 = .inl o3673 ∧ Mem [] w w' [sg3676] ∧ Sat Try.f17.ntmps [(0, .slice p2763 x2761.length c2764), (1, .slice p2768 x2766.length c2769), (5, .slice p3674 o3673.length c3675), (14, .slice p2768 x2766.length c2769), (15, .int .i64 (x2766.length : Int)), (16, .int .i64 s3479.2)] a) ?_ ?_
      · refine G_block ?_
        refine G_while (σ := List Int × Int) (ρ := (List Int) ⊕ (Bool)) (fun s3658 a w' => ∃ (p3668 : Option Addr), ∃ (c3669 : Nat), ∃ (sg3670 : Seg), ownS Gx.encI s3658.1 p3668 c3669 sg3670 ∧ Mem [] w w' [sg3670] ∧ Sat Try.f17.ntmps [(0, .slice p2763 x2761.length c2764), (1, .slice p2768 x2766.length c2769), (5, .slice p3668 s3658.1.length c3669), (14, .slice p2768 x2766.length c2769), (15, .int .i64 (x2766.length : Int)), (16, .int .i64 s3479.2), (56, .slice ((g3501 0).1) y3496.Gave.length ((g3501 0).2)), (57, .int .i64 (y3496.Gave.length : Int)), (58, .int .i64 s3658.2)] a) hw3666 (fun a ha => ⟨p3489, c3490, sg3491, ho3492, M3575.pick [0] (by kernel_rfl), ha.sub (by kernel_rfl)⟩) ?_
        clear hm
        intro s3658 x3659 hm hout3660 a3661 w3662 ⟨p3668, c3669, sg3670, ho3671, M3663, hS3664⟩
        refine G_use hS3664 ?_
        refine G_seq ?_
        refine G_region ?_
        refine W_run 1 [(0, .slice p2763 x2761.length c2764), (1, .slice p2768 x2766.length c2769), (5, .slice p3668 s3658.1.length c3669), (14, .slice p2768 x2766.length c2769), (15, .int .i64 (x2766.length : Int)), (16, .int .i64 s3479.2), (56, .slice ((g3501 0).1) y3496.Gave.length ((g3501 0).2)), (57, .int .i64 (y3496.Gave.length : Int)), (58, .int .i64 s3658.2), (59, .bool (decide (s3658.2 < (y3496.Gave.length : Int))))] w3662 (by kernel_rfl) ?_
        refine W_nil ?_
        refine N_then ?_
        refine G_seq ?_
        rcases gx_bif hm with ⟨hc3679, hm⟩ | ⟨hc3679, hm⟩
        · refine G_cond_t (b := (decide (s3658.2 < (y3496.Gave.length : Int)))) hc3679 (by kernel_rfl) ?_
          refine G_skip ?_
          refine N_then ?_
          refine G_seq ?_
          refine G_block ?_
          refine G_seq ?_
          refine G_region ?_
          obtain ⟨y3680, hy3680, hm⟩ := gx_bind hm
          refine W_val (elemP ((g3501 0).1) (s3658.2.toNat * 1)) w3662 (by kernel_rfl) (E_index (E := Gx.encI) _ _ _ y3496.Gave.length ((g3501 0).2) .i64 s3658.2 1 (y := y3680) rfl (by kernel_rfl) (by kernel_rfl) (by kernel_rfl) ((hi3500.mem0 M3663).at_ hg3502 0 ⟨Int, Gx.encI, y3496.Gave, (g3501 0).1, (g3501 0).2⟩ (by kernel_rfl)) rfl hy3680) ?_
          refine W_val (.int .i64 y3680) w3662 (by kernel_rfl) (E_loadE (E := Gx.encI) _ _ false 1 s3658.2 0 (s3658.2.toNat * 1) y3680 (.int .i64 y3680) rfl (by kernel_rfl) (by kernel_rfl) (by kernel_rfl) ((hi3500.mem0 M3663).at_ hg3502 0 ⟨Int, Gx.encI, y3496.Gave, (g3501 0).1, (g3501 0).2⟩ (by kernel_rfl)) hy3680 rfl) ?_
          refine W_run 1 [(0, .slice p2763 x2761.length c2764), (1, .slice p2768 x2766.length c2769), (5, .slice p3668 s3658.1.length c3669), (9, .int .i64 y3680), (14, .slice p2768 x2766.length c2769), (15, .int .i64 (x2766.length : Int)), (16, .int .i64 s3479.2), (56, .slice ((g3501 0).1) y3496.Gave.length ((g3501 0).2)), (57, .int .i64 (y3496.Gave.length : Int)), (58, .int .i64 s3658.2)] w3662 (by kernel_rfl) ?_
          refine W_nil ?_
          refine N_then ?_
          refine G_seq ?_
          refine G_seq ?_
          obtain ⟨o3687, ho3688, hm3689⟩ := gx_bind hm
          refine G_meet (fun a w' => Mem [] w w' [sg3670] ∧ Sat Try.f17.ntmps [(0, .slice p2763 x2761.length c2764), (1, .slice p2768 x2766.length c2769), (5, .slice p3668 s3658.1.length c3669), (9, .int .i64 y3680), (14, .slice p2768 x2766.length c2769), (15, .int .i64 (x2766.length : Int)), (16, .int .i64 s3479.2), (56, .slice ((g3501 0).1) y3496.Gave.length ((g3501 0).2)), (57, .int .i64 (y3496.Gave.length : Int)), (58, .int .i64 s3658.2), (71, .bool o3687)] a) ?_ ?_
          · have hm := ho3688
            refine G_region ?_
            refine W_run 2 [(0, .slice p2763 x2761.length c2764), (1, .slice p2768 x2766.length c2769), (5, .slice p3668 s3658.1.length c3669), (9, .int .i64 y3680), (14, .slice p2768 x2766.length c2769), (15, .int .i64 (x2766.length : Int)), (16, .int .i64 s3479.2), (56, .slice ((g3501 0).1) y3496.Gave.length ((g3501 0).2)), (57, .int .i64 (y3496.Gave.length : Int)), (58, .int .i64 s3658.2), (62, .slice p2763 x2761.length c2764), (63, .int .i64 y3680)] w3662 (by kernel_rfl) ?_
            obtain ⟨y3690, hy3690, hm⟩ := gx_bind hm
            refine W_val (elemP p2763 (y3680.toNat * 1)) w3662 (by kernel_rfl) (E_index (E := Gx.encI) _ _ _ x2761.length c2764 .i64 y3680 1 (y := y3690) rfl (by kernel_rfl) (by kernel_rfl) (by kernel_rfl) (h2765.mem0 M3663) rfl hy3690) ?_
            refine W_val (.int .i64 y3690) w3662 (by kernel_rfl) (E_loadE (E := Gx.encI) _ _ false 1 y3680 0 (y3680.toNat * 1) y3690 (.int .i64 y3690) rfl (by kernel_rfl) (by kernel_rfl) (by kernel_rfl) (h2765.mem0 M3663) hy3690 rfl) ?_
            refine W_run 2 [(0, .slice p2763 x2761.length c2764), (1, .slice p2768 x2766.length c2769), (5, .slice p3668 s3658.1.length c3669), (9, .int .i64 y3680), (14, .slice p2768 x2766.length c2769), (15, .int .i64 (x2766.length : Int)), (16, .int .i64 s3479.2), (56, .slice ((g3501 0).1) y3496.Gave.length ((g3501 0).2)), (57, .int .i64 (y3496.Gave.length : Int)), (58, .int .i64 s3658.2), (67, .bool (y3690 != 0))] w3662 (by kernel_rfl) ?_
            rcases gx_bif hm with ⟨hc3691, hm⟩ | ⟨hc3691, hm⟩
            · refine W_known 67 true (by kernel_rfl) hc3691 ?_
              refine W_run 4 [(0, .slice p2763 x2761.length c2764), (1, .slice p2768 x2766.length c2769), (5, .slice p3668 s3658.1.length c3669), (9, .int .i64 y3680), (14, .slice p2768 x2766.length c2769), (15, .int .i64 (x2766.length : Int)), (16, .int .i64 s3479.2), (56, .slice ((g3501 0).1) y3496.Gave.length ((g3501 0).2)), (57, .int .i64 (y3496.Gave.length : Int)), (58, .int .i64 s3658.2), (71, .bool true)] w3662 (by kernel_rfl) ?_
              refine W_nil ?_
              obtain rfl := Option.some.inj hm
              exact N_meet fun a ha => ⟨M3663.pick [0] (by kernel_rfl), ha.sub (by kernel_rfl)⟩
            refine W_known 67 false (by kernel_rfl) hc3691 ?_
            refine W_run 2 [(0, .slice p2763 x2761.length c2764), (1, .slice p2768 x2766.length c2769), (5, .slice p3668 s3658.1.length c3669), (9, .int .i64 y3680), (14, .slice p2768 x2766.length c2769), (15, .int .i64 (x2766.length : Int)), (16, .int .i64 s3479.2), (56, .slice ((g3501 0).1) y3496.Gave.length ((g3501 0).2)), (57, .int .i64 (y3496.Gave.length : Int)), (58, .int .i64 s3658.2), (67, .bool false), (68, .slice p3668 s3658.1.length c3669), (69, .int .i64 y3680)] w3662 (by kernel_rfl) ?_
            obtain ⟨r3692, hr3692, hm⟩ := gx_bind hm
            refine W_call 53 #[.slice p3668 s3658.1.length c3669, .int .i64 y3680] (by kernel_rfl) (by kernel_rfl) ?_
            refine (c_slices_Contains_53 w3662 s3658.1 p3668 c3669 (ho3671.rd M3663 0 (by kernel_rfl)) y3680 hr3692).mono ?_
            rintro e_ w3693 ⟨rfl, K3694⟩
            have M3695 := M3663.call0 K3694
            refine ⟨_, rfl, ?_⟩
            refine W_run 1 [(0, .slice p2763 x2761.length c2764), (1, .slice p2768 x2766.length c2769), (5, .slice p3668 s3658.1.length c3669), (9, .int .i64 y3680), (14, .slice p2768 x2766.length c2769), (15, .int .i64 (x2766.length : Int)), (16, .int .i64 s3479.2), (56, .slice ((g3501 0).1) y3496.Gave.length ((g3501 0).2)), (57, .int .i64 (y3496.Gave.length : Int)), (58, .int .i64 s3658.2), (71, .bool r3692)] w3693 (by kernel_rfl) ?_
            refine W_nil ?_
            obtain rfl := Option.some.inj hm
            exact N_meet fun a ha => ⟨M3695.pick [0] (by kernel_rfl), ha.sub (by kernel_rfl)⟩
          intro a3698 w3696 ⟨M3697, hS3699⟩
          refine N_use hS3699 ?_
          have hm := hm3689
          refine N_then ?_
          rcases gx_bif hm with ⟨hc3700, hm⟩ | ⟨hc3700, hm⟩
          · refine G_cond_t (b := o3687) hc3700 (by kernel_rfl) ?_
            refine G_seq ?_
            refine G_region ?_
            refine W_run 1 [(4, .bool false)] w3696 (by kernel_rfl) ?_
            refine W_nil ?_
            refine N_then ?_
            refine G_ret ?_
            refine N_then_ret ?_
            refine N_block_ret ?_
            refine N_then_ret ?_
            refine N_then_ret ?_
            obtain rfl := Option.some.inj hm
            obtain rfl := hout3660 _ rfl
            have hm := hmo3667; simp only [Sum.elim_inr] at hm
            refine N_block_ret ?_
            refine N_meet_ret ?_
            refine N_block_ret ?_
            refine N_then_ret ?_
            refine N_then_ret ?_
            obtain rfl := Option.some.inj hm
            obtain rfl := hout3481 _ rfl
            have hm := hmo3488; simp only [Sum.elim_inr] at hm
            refine N_block_ret ?_
            refine N_meet_ret ?_
            refine N_then_ret ?_
            obtain rfl := Option.some.inj hm
            refine N_ret [.bool false] (RVs_cons (RV_tmp (by kernel_rfl)) RVs_nil) ?_
            exact ⟨rfl, M3697.pick [] (by kernel_rfl)⟩
          refine G_cond_f (b := o3687) hc3700 (by kernel_rfl) ?_
          refine G_skip ?_
          refine N_then ?_
          refine G_region ?_
          refine W_run 2 [(0, .slice p2763 x2761.length c2764), (1, .slice p2768 x2766.length c2769), (5, .slice p3668 s3658.1.length c3669), (14, .slice p2768 x2766.length c2769), (15, .int .i64 (x2766.length : Int)), (16, .int .i64 s3479.2), (56, .slice ((g3501 0).1) y3496.Gave.length ((g3501 0).2)), (57, .int .i64 (y3496.Gave.length : Int)), (58, .int .i64 s3658.2), (72, .slice p3668 s3658.1.length c3669), (73, .int .i64 y3680)] w3696 (by kernel_rfl) ?_
          refine W_lit (E := Gx.encI) [y3680] 1 [.int .i64 y3680] 3 M3697 (by kernel_rfl) (by kernel_rfl) (by kernel_rfl) (by kernel_rfl) (by kernel_rfl) ?_
          intro p3701 c3702 sg3703 w3704 ho3705 M3706
          obtain ⟨ap3708, hap3708, hm⟩ := gx_bind hm
          refine W_append (E := Gx.encI) _ _ _ 8 [.int .i64 0] 0 c3702 M3706 ho3671 (by kernel_rfl) (by kernel_rfl) (by kernel_rfl) rfl (by kernel_rfl) (by kernel_rfl) (by kernel_rfl) (by kernel_rfl) (by kernel_rfl) (by kernel_rfl) (ho3705.rd M3706 1 (by kernel_rfl)) hap3708 ?_
          intro p3709 c3710 sg3711 w3712 ho3713 M3714
          refine W_run 1 [(0, .slice p2763 x2761.length c2764), (1, .slice p2768 x2766.length c2769), (5, .slice p3709 ap3708.length c3710), (14, .slice p2768 x2766.length c2769), (15, .int .i64 (x2766.length : Int)), (16, .int .i64 s3479.2), (56, .slice ((g3501 0).1) y3496.Gave.length ((g3501 0).2)), (57, .int .i64 (y3496.Gave.length : Int)), (58, .int .i64 s3658.2)] w3712 (by kernel_rfl) ?_
          refine W_nil ?_
          refine N_block ?_
          refine N_then ?_
          refine G_region ?_
          refine W_run 2 [(0, .slice p2763 x2761.length c2764), (1, .slice p2768 x2766.length c2769), (5, .slice p3709 ap3708.length c3710), (14, .slice p2768 x2766.length c2769), (15, .int .i64 (x2766.length : Int)), (16, .int .i64 s3479.2), (56, .slice ((g3501 0).1) y3496.Gave.length ((g3501 0).2)), (57, .int .i64 (y3496.Gave.length : Int)), (58, .int .i64 (w64 (s3658.2 + 1)))] w3712 (by kernel_rfl) ?_
          refine W_nil ?_
          obtain rfl := Option.some.inj hm
          exact N_loop fun a ha => ⟨_, rfl, p3709, c3710, sg3711, ho3713, M3714.pick [0] (by kernel_rfl), ha.sub (by kernel_rfl)⟩
        refine G_cond_f (b := (decide (s3658.2 < (y3496.Gave.length : Int)))) hc3679 (by kernel_rfl) ?_
        refine G_exit ?_
        refine N_then_exit ?_
        refine N_then_exit ?_
        refine N_block_eq ?_
        obtain rfl := Option.some.inj hm
        obtain rfl := hout3660 _ rfl
        exact N_meet fun a ha => ⟨_, p3668, c3669, sg3670, ho3671, rfl, M3663.pick [0] (by kernel_rfl), ha.sub (by kernel_rfl)⟩
      intro a3716 w3717 ⟨o3673, p3674, c3675, sg3676, ho3677, hout_, M3718, hS3719⟩
      refine N_use hS3719 ?_
      subst hout_
      have hm := hmo3667; simp only [Sum.elim_inl] at hm
      refine N_block ?_
      refine N_then ?_
      refine G_region ?_
      refine W_run 2 [(0, .slice p2763 x2761.length c2764), (1, .slice p2768 x2766.length c2769), (5, .slice p3674 o3673.length c3675), (14, .slice p2768 x2766.length c2769), (15, .int .i64 (x2766.length : Int)), (16, .int .i64 (w64 (s3479.2 + 1)))] w3717 (by kernel_rfl) ?_
      refine W_nil ?_
      obtain rfl := Option.some.inj hm
      exact N_loop fun a ha => ⟨_, rfl, p3674, c3675, sg3676, ho3677, M3718.pick [0] (by kernel_rfl), ha.sub (by kernel_rfl)⟩
    refine G_cond_f (b := (decide (s3479.2 < (x2766.length : Int)))) hc3495 (by kernel_rfl) ?_
    refine G_exit ?_
    refine N_then_exit ?_
    refine N_then_exit ?_
    refine N_block_eq ?_
    obtain rfl := Option.some.inj hm
    obtain rfl := hout3481 _ rfl
    exact N_meet fun a ha => ⟨_, rfl, M3484.pick [] (by kernel_rfl), ha.sub (by kernel_rfl)⟩
  intro a3720 w3721 ⟨o3494, hout_, M3722, hS3723⟩
  refine N_use hS3723 ?_
  subst hout_
  have hm := hmo3488; simp only [Sum.elim_inl] at hm
  refine N_then ?_
  refine G_seq ?_
  refine G_region ?_
  refine W_run 1 [(4, .bool true)] w3721 (by kernel_rfl) ?_
  refine W_nil ?_
  refine N_then ?_
  refine G_ret ?_
  obtain rfl := Option.some.inj hm
  refine N_ret [.bool true] (RVs_cons (RV_tmp (by kernel_rfl)) RVs_nil) ?_
  exact ⟨rfl, M3722.pick [] (by kernel_rfl)⟩
theorem c_i_balloonOf (w : World) (x2663 : List Int) (p2665 : Option Addr) (c2666 : Nat) (h2667 : rdS Gx.encI w x2663 p2665 c2666) (x2668 : List Balloon) (p2670 : Option Addr) (c2671 : Nat) (h2672 : rdD deepBalloon w x2668 p2670 c2671) (x2673 : Int) {r : Int × Bool} (hm : M.i_balloonOf x2663 x2668 x2673 = some r) :
    Calls Try.prog 59 #[.slice p2665 x2663.length c2666, .slice p2670 x2668.length c2671, .int .i64 x2673] w fun e w' => e = .returned (.tuple #[.int .i64 r.1, .bool r.2]) ∧ Mem [] w w' [] := by
  unfold M.i_balloonOf at hm
  refine C_enter Try.func59 rfl (by kernel_rfl) ?_
  have M0 := Mem.refl [] w
  refine G_seq ?_
  refine G_region ?_
  refine W_new (fun b => .pointer (some ⟨b, 0, none⟩)) (.cells ⟨[.int .i64 x2673]⟩ 3 (0, 0)) M0 rfl (by kernel_rfl) (by kernel_rfl) ?_
  intro b2675 w2676 M2677
  refine W_run 2 [(0, .slice p2665 x2663.length c2666), (1, .slice p2670 x2668.length c2671), (5, .pointer (some ⟨b2675, 0, none⟩))] w2676 (by kernel_rfl) ?_
  refine W_nil ?_
  refine N_then ?_
  refine G_seq ?_
  refine G_region ?_
  refine W_run 2 [(0, .slice p2665 x2663.length c2666), (1, .slice p2670 x2668.length c2671), (9, .slice p2670 x2668.length c2671), (10, .func (.func 86) #[] #[.pointer (some ⟨b2675, 0, none⟩)])] w2676 (by kernel_rfl) ?_
  obtain ⟨r2757, hr2757, hm⟩ := gx_bind hm
  refine W_call 85 #[.slice p2670 x2668.length c2671, .func (.func 86) #[] #[.pointer (some ⟨b2675, 0, none⟩)]] (by kernel_rfl) (by kernel_rfl) ?_
  refine (c_slices_IndexFunc_85__i_balloonOf_1 w2676 x2668 p2670 c2671 (h2672.mem0 M2677) x2673 b2675 (M2677.blk 0 (b := b2675) (o := .cells ⟨[.int .i64 x2673]⟩ 3 (0, 0)) (by kernel_rfl)) hr2757).mono ?_
  rintro e_ w2758 ⟨rfl, K2759⟩
  have M2760 := M2677.call0 K2759
  refine ⟨_, rfl, ?_⟩
  refine W_run 1 [(0, .slice p2665 x2663.length c2666), (1, .slice p2670 x2668.length c2671), (8, .int .i64 r2757)] w2758 (by kernel_rfl) ?_
  refine W_nil ?_
  refine N_then ?_
  refine G_seq ?_
  obtain ⟨o3729, ho3730, hm3731⟩ := gx_bind hm
  refine G_meet (fun a w' => Mem [] w w' [] ∧ Sat Try.f59.ntmps [(6, .int .i64 o3729.1), (7, .bool o3729.2)] a) ?_ ?_
  · have hm := ho3730
    refine G_region ?_
    refine W_run 3 [(8, .int .i64 r2757), (12, .int .i64 r2757), (13, .slice p2665 x2663.length c2666), (14, .slice p2670 x2668.length c2671)] w2758 (by kernel_rfl) ?_
    obtain ⟨r3732, hr3732, hm⟩ := gx_bind hm
    refine W_call 17 #[.slice p2665 x2663.length c2666, .slice p2670 x2668.length c2671] (by kernel_rfl) (by kernel_rfl) ?_
    refine (c_i_AreBalloons w2758 x2663 p2665 c2666 (h2667.mem0 M2760) x2668 p2670 c2671 (h2672.mem0 M2760) hr3732).mono ?_
    rintro e_ w3733 ⟨rfl, K3734⟩
    have M3735 := M2760.call0 K3734
    refine ⟨_, rfl, ?_⟩
    refine W_run 1 [(8, .int .i64 r2757), (12, .int .i64 r2757), (16, .bool r3732)] w3733 (by kernel_rfl) ?_
    rcases gx_bif hm with ⟨hc3736, hm⟩ | ⟨hc3736, hm⟩
    · refine W_known 16 true (by kernel_rfl) hc3736 ?_
      refine W_run 5 [(6, .int .i64 r2757), (7, .bool (decide (r2757 ≥ 0)))] w3733 (by kernel_rfl) ?_
      refine W_nil ?_
      obtain rfl := Option.some.inj hm
      exact N_meet fun a ha => ⟨M3735.pick [] (by kernel_rfl), ha.sub (by kernel_rfl)⟩
    refine W_known 16 false (by kernel_rfl) hc3736 ?_
    refine W_run 5 [(6, .int .i64 r2757), (7, .bool false)] w3733 (by kernel_rfl) ?_
    refine W_nil ?_
    obtain rfl := Option.some.inj hm
    exact N_meet fun a ha => ⟨M3735.pick [] (by kernel_rfl), ha.sub (by kernel_rfl)⟩
  intro a3739 w3737 ⟨M3738, hS3740⟩
  refine N_use hS3740 ?_
  have hm := hm3731
  refine N_then ?_
  refine G_ret ?_
  obtain rfl := Option.some.inj hm
  refine N_ret [.int .i64 o3729.1, .bool o3729.2] (RVs_cons (RV_tmp (by kernel_rfl)) (RVs_cons (RV_tmp (by kernel_rfl)) RVs_nil)) ?_
  exact ⟨rfl, M3738.pick [] (by kernel_rfl)⟩
theorem c_i_copyInts (w : World) (x3748 : List Int) (p3750 : Option Addr) (c3751 : Nat) (h3752 : rdS Gx.encI w x3748 p3750 c3751) {r : (List Int)} (hm : M.i_copyInts x3748 = some r) :
    Calls Try.prog 62 #[.slice p3750 x3748.length c3751] w fun e w' => ∃ (p3754 : Option Addr) (c3755 : Nat) (sg3756 : Seg), e = .returned (.slice p3754 r.length c3755) ∧ ownS Gx.encI r p3754 c3755 sg3756 ∧ Mem [] w w' [sg3756] := by
  unfold M.i_copyInts at hm
  refine C_enter Try.func62 rfl (by kernel_rfl) ?_
  have M0 := Mem.refl [] w
  refine G_seq ?_
  refine G_region ?_
  refine W_run 1 [(0, .slice p3750 x3748.length c3751)] w (by kernel_rfl) ?_
  refine W_nil ?_
  refine N_then ?_
  refine G_seq ?_
  refine G_region ?_
  refine W_lit (E := Gx.encI) ([] : List Int) 0 [] 3 M0 (by kernel_rfl) (by kernel_rfl) (by kernel_rfl) (by kernel_rfl) (by kernel_rfl) ?_
  intro p3758 c3759 sg3760 w3761 ho3762 M3763
  refine W_run 1 [(3, .slice p3758 ([] : List Int).length c3759), (4, .slice p3750 x3748.length c3751)] w3761 (by kernel_rfl) ?_
  obtain ⟨ap3765, hap3765, hm⟩ := gx_bind hm
  refine W_append (E := Gx.encI) _ _ _ 8 [.int .i64 0] 0 c3751 M3763 ho3762 (by kernel_rfl) (by kernel_rfl) (by kernel_rfl) rfl (by kernel_rfl) (by kernel_rfl) (by kernel_rfl) (by kernel_rfl) (by kernel_rfl) (by kernel_rfl) (h3752.mem0 M3763) hap3765 ?_
  intro p3766 c3767 sg3768 w3769 ho3770 M3771
  refine W_run 1 [(2, .slice p3766 ap3765.length c3767)] w3769 (by kernel_rfl) ?_
  refine W_nil ?_
  refine N_then ?_
  refine G_ret ?_
  obtain rfl := Option.some.inj hm
  refine N_ret [.slice p3766 ap3765.length c3767] (RVs_cons (RV_tmp (by kernel_rfl)) RVs_nil) ?_
  exact ⟨p3766, c3767, sg3768, rfl, ho3770, M3771.pick [0] (by kernel_rfl)⟩
theorem c_i_newBalloons (w : World) (x3782 : List Balloon) (p3784 : Option Addr) (c3785 : Nat) (h3786 : rdD deepBalloon w x3782 p3784 c3785) {r : (List Balloon)} (hm : M.i_newBalloons x3782 = some r) :
    Calls Try.prog 60 #[.slice p3784 x3782.length c3785] w fun e w' => ∃ (p3788 : Option Addr) (c3789 : Nat) (sg3790 : Seg) (sg3791 : Seg), e = .returned (.slice p3788 r.length c3789) ∧ ownD deepBalloon r p3788 c3789 sg3790 sg3791 ∧ Mem [] w w' [sg3790, sg3791] := by
  unfold M.i_newBalloons at hm
  refine C_enter Try.func60 rfl (by kernel_rfl) ?_
  have M0 := Mem.refl [] w
  refine G_seq ?_
  refine G_region ?_
  refine W_run 1 [(0, .slice p3784 x3782.length c3785)] w (by kernel_rfl) ?_
  refine W_nil ?_
  refine N_then ?_
  refine G_seq ?_
  refine G_region ?_
  have M3793 : Mem [] w w [] := M0.pick [] (by kernel_rfl)
  have M3794 : Mem [] w w [[]] := M3793.regroup (by simp)
  refine W_litD (D := deepBalloon) [] ([] : List Balloon) rfl 0 [] 50 M3794 (by kernel_rfl) (by kernel_rfl) (by kernel_rfl) (by kernel_rfl) (by kernel_rfl) ownI_nil ?_
  intro p3795 c3796 sg3797 w3798 ho3799 M3800
  refine W_run 1 [(0, .slice p3784 x3782.length c3785), (3, .slice p3795 ([] : List Balloon).length c3796)] w3798 (by kernel_rfl) ?_
  refine W_nil ?_
  refine N_then ?_
  refine G_seq ?_
  refine G_seq ?_
  refine G_region ?_
  refine W_run 3 [(3, .slice p3795 ([] : List Balloon).length c3796), (7, .slice p3784 x3782.length c3785), (8, .int .i64 (x3782.length : Int)), (9, .int .i64 0)] w3798 (by kernel_rfl) ?_
  refine W_nil ?_
  refine N_then ?_
  obtain ⟨out3919, hw3920, hmo3921⟩ := gx_bind hm
  refine G_meet (fun a w' => ∃ (p3929 : Option Addr), ∃ (c3930 : Nat), ∃ (sg3931 : Seg), ∃ (sg3932 : Seg), ownD deepBalloon out3919 p3929 c3930 sg3931 sg3932 ∧ Mem [] w w' [sg3931, sg3932] ∧ Sat Try.f60.ntmps [(3, .slice p3929 out3919.length c3930)] a) ?_ ?_
  · refine G_block ?_
    refine G_while (σ := List Balloon × Int) (ρ := List Balloon) (fun s3912 a w' => ∃ (p3922 : Option Addr), ∃ (c3923 : Nat), ∃ (sg3924 : Seg), ∃ (sg3925 : Seg), ownD deepBalloon s3912.1 p3922 c3923 sg3924 sg3925 ∧ Mem [] w w' [sg3924, sg3925] ∧ Sat Try.f60.ntmps [(3, .slice p3922 s3912.1.length c3923), (7, .slice p3784 x3782.length c3785), (8, .int .i64 (x3782.length : Int)), (9, .int .i64 s3912.2)] a) hw3920 (fun a ha => ⟨p3795, c3796, sg3797, [], ho3799, M3800.pick [1, 0] (by kernel_rfl), ha.sub (by kernel_rfl)⟩) ?_
    clear hm
    intro s3912 x3913 hm hout3914 a3915 w3916 ⟨p3922, c3923, sg3924, sg3925, ho3926, M3917, hS3918⟩
    refine G_use hS3918 ?_
    refine G_seq ?_
    refine G_region ?_
    refine W_run 1 [(3, .slice p3922 s3912.1.length c3923), (7, .slice p3784 x3782.length c3785), (8, .int .i64 (x3782.length : Int)), (9, .int .i64 s3912.2), (10, .bool (decide (s3912.2 < (x3782.length : Int))))] w3916 (by kernel_rfl) ?_
    refine W_nil ?_
    refine N_then ?_
    refine G_seq ?_
    rcases gx_bif hm with ⟨hc3935, hm⟩ | ⟨hc3935, hm⟩
    · refine G_cond_t (b := (decide (s3912.2 < (x3782.length : Int)))) hc3935 (by kernel_rfl) ?_
      refine G_skip ?_
      refine N_then ?_
      refine G_seq ?_
      refine G_block ?_
      refine G_seq ?_
      refine G_region ?_
      obtain ⟨y3936, hy3936, hm⟩ := gx_bind hm
      obtain ⟨zs3937, hz3938, hr3939, hi3940⟩ := id h3786
      obtain ⟨g3941, hg3942⟩ := gxIdx_fst hz3938 hy3936
      refine W_val (elemP p3784 (s3912.2.toNat * 3)) w3916 (by kernel_rfl) (E_index (E := deepBalloon.E) _ _ _ x3782.length c3785 .i64 s3912.2 3 (y := (y3936, g3941)) rfl (by kernel_rfl) (by kernel_rfl) (by kernel_rfl) (hr3939.mem0 M3917) (len_fst hz3938) hg3942) ?_
      refine W_val (.agg #[.int .i64 y3936.Guest, .int .i64 y3936.Goal, .slice ((g3941 0).1) y3936.Gave.length ((g3941 0).2)]) w3916 (by kernel_rfl) (E_loadE (E := deepBalloon.E) _ _ true 3 s3912.2 0 (s3912.2.toNat * 3) (y3936, g3941) (.agg #[.int .i64 y3936.Guest, .int .i64 y3936.Goal, .slice ((g3941 0).1) y3936.Gave.length ((g3941 0).2)]) rfl (by kernel_rfl) (by kernel_rfl) (by kernel_rfl) (hr3939.mem0 M3917) hg3942 rfl) ?_
      refine W_new (fun b => .pointer (some ⟨b, 0, none⟩)) (.cells ⟨[.int .i64 0, .int .i64 0, .slice none 0 0]⟩ 50 (0, 0)) M3917 rfl (by kernel_rfl) (by kernel_rfl) ?_
      intro b3946 w3947 M3948
      refine W_store _ _ _ true 3 b3946 0 [.int .i64 0, .int .i64 0, .slice none 0 0] 50 (.agg #[.int .i64 y3936.Guest, .int .i64 y3936.Goal, .slice ((g3941 0).1) y3936.Gave.length ((g3941 0).2)]) 2 [.int .i64 y3936.Guest, .int .i64 y3936.Goal, .slice ((g3941 0).1) y3936.Gave.length ((g3941 0).2)] M3948 (by kernel_rfl) rfl (by kernel_rfl) (by kernel_rfl) (by kernel_rfl) (by kernel_rfl) (by kernel_rfl) (by kernel_rfl) (by kernel_rfl) (by kernel_rfl) ?_
      intro w3949 M3950
      refine W_nil ?_
      refine N_then ?_
      refine G_seq ?_
      refine G_region ?_
      refine W_run 1 [(3, .slice p3922 s3912.1.length c3923), (5, .pointer (some ⟨b3946, 0, none⟩)), (7, .slice p3784 x3782.length c3785), (8, .int .i64 (x3782.length : Int)), (9, .int .i64 s3912.2), (13, .pointer (some ⟨b3946, 2, none⟩))] w3949 (by kernel_rfl) ?_
      refine W_val (.slice ((g3941 0).1) y3936.Gave.length ((g3941 0).2)) w3949 (by kernel_rfl) (E_load (e := 50) (fr := (0, 0)) _ _ false 1 b3946 2 [.int .i64 y3936.Guest, .int .i64 y3936.Goal, .slice ((g3941 0).1) y3936.Gave.length ((g3941 0).2)] (.slice ((g3941 0).1) y3936.Gave.length ((g3941 0).2)) rfl (by kernel_rfl) (by kernel_rfl) (by kernel_rfl) (M3950.blk 2 (b := b3946) (o := .cells ⟨[.int .i64 y3936.Guest, .int .i64 y3936.Goal, .slice ((g3941 0).1) y3936.Gave.length ((g3941 0).2)]⟩ 50 (0, 0)) (by kernel_rfl))) ?_
      obtain ⟨r3951, hr3951, hm⟩ := gx_bind hm
      refine W_call 62 #[.slice ((g3941 0).1) y3936.Gave.length ((g3941 0).2)] (by kernel_rfl) (by kernel_rfl) ?_
      refine (c_i_copyInts w3949 y3936.Gave ((g3941 0).1) ((g3941 0).2) ((hi3940.mem0 M3950).at_ hg3942 0 ⟨Int, Gx.encI, y3936.Gave, (g3941 0).1, (g3941 0).2⟩ (by kernel_rfl)) hr3951).mono ?_
      rintro e_ w3957 ⟨p3953, c3954, sg3955, rfl, ho3956, K3958⟩
      have M3959 := M3950.call K3958
      refine ⟨_, rfl, ?_⟩
      refine W_run 1 [(3, .slice p3922 s3912.1.length c3923), (5, .pointer (some ⟨b3946, 0, none⟩)), (7, .slice p3784 x3782.length c3785), (8, .int .i64 (x3782.length : Int)), (9, .int .i64 s3912.2), (15, .slice p3953 r3951.length c3954), (16, .pointer (some ⟨b3946, 2, none⟩))] w3957 (by kernel_rfl) ?_
      refine W_store _ _ _ false 1 b3946 2 [.int .i64 y3936.Guest, .int .i64 y3936.Goal, .slice ((g3941 0).1) y3936.Gave.length ((g3941 0).2)] 50 (.slice p3953 r3951.length c3954) 2 [.int .i64 y3936.Guest, .int .i64 y3936.Goal, .slice p3953 r3951.length c3954] M3959 (by kernel_rfl) rfl (by kernel_rfl) (by kernel_rfl) (by kernel_rfl) (by kernel_rfl) (by kernel_rfl) (by kernel_rfl) (by kernel_rfl) (by kernel_rfl) ?_
      intro w3960 M3961
      refine W_nil ?_
      refine N_then ?_
      refine G_region ?_
      refine W_run 1 [(3, .slice p3922 s3912.1.length c3923), (5, .pointer (some ⟨b3946, 0, none⟩)), (7, .slice p3784 x3782.length c3785), (8, .int .i64 (x3782.length : Int)), (9, .int .i64 s3912.2), (17, .slice p3922 s3912.1.length c3923)] w3960 (by kernel_rfl) ?_
      refine W_val (.agg #[.int .i64 y3936.Guest, .int .i64 y3936.Goal, .slice p3953 r3951.length c3954]) w3960 (by kernel_rfl) (E_load (e := 50) (fr := (0, 0)) _ _ true 3 b3946 0 [.int .i64 y3936.Guest, .int .i64 y3936.Goal, .slice p3953 r3951.length c3954] (.agg #[.int .i64 y3936.Guest, .int .i64 y3936.Goal, .slice p3953 r3951.length c3954]) rfl (by kernel_rfl) (by kernel_rfl) (by kernel_rfl) (M3961.blk 2 (b := b3946) (o := .cells ⟨[.int .i64 y3936.Guest, .int .i64 y3936.Goal, .slice p3953 r3951.length c3954]⟩ 50 (0, 0)) (by kernel_rfl))) ?_
      have M3963 : Mem [] w w3960 [sg3924, sg3925, [(b3946, .cells ⟨[.int .i64 y3936.Guest, .int .i64 y3936.Goal, .slice p3953 r3951.length c3954]⟩ 50 (0, 0))], sg3955] := M3961.pick [0, 1, 2, 3] (by kernel_rfl)
      have M3964 : Mem [] w w3960 [sg3924, sg3925, [(b3946, .cells ⟨[.int .i64 y3936.Guest, .int .i64 y3936.Goal, .slice p3953 r3951.length c3954]⟩ 50 (0, 0))], (sg3955 ++ [])] := M3963.regroup (by simp)
      refine W_litD (D := deepBalloon) [((⟨y3936.Guest, y3936.Goal, r3951⟩ : Balloon), plOf [(p3953, c3954)])] [(⟨y3936.Guest, y3936.Goal, r3951⟩ : Balloon)] rfl 1 [.int .i64 y3936.Guest, .int .i64 y3936.Goal, .slice p3953 r3951.length c3954] 50 M3964 (by kernel_rfl) (by kernel_rfl) (by kernel_rfl) (by kernel_rfl) (by kernel_rfl) (ownI_cons (i := ⟨Int, Gx.encI, _, _, _⟩) ho3956 ownI_nil) ?_
      intro p3965 c3966 sg3967 w3968 ho3969 M3970
      obtain ⟨ap3972, hap3972, hm⟩ := gx_bind hm
      obtain ⟨zs3974, hz3975, hr3976, hi3977⟩ := id ho3969
      refine W_appendD (D := deepBalloon) (us := zs3974) (s2 := (sg3955 ++ [])) _ _ _ 40 [.int .i64 0, .int .i64 0, .slice none 0 0] 0 c3966 M3970 ho3926 (by kernel_rfl) (by kernel_rfl) (by kernel_rfl) rfl (by kernel_rfl) (by kernel_rfl) (by kernel_rfl) (by kernel_rfl) (by kernel_rfl) (by kernel_rfl) (hr3976.rd M3970 4 (by kernel_rfl)) hz3975 hi3977 hap3972 ?_
      intro p3978 c3979 sg3980 w3981 ho3982 M3983
      have M3984 : Mem [] w w3981 [sg3980, [(b3946, .cells ⟨[.int .i64 y3936.Guest, .int .i64 y3936.Goal, .slice p3953 r3951.length c3954]⟩ 50 (0, 0))], sg3967, sg3925, (sg3955 ++ [])] := M3983.pick [0, 2, 4, 1, 3] (by kernel_rfl)
      have M3985 : Mem [] w w3981 [sg3980, [(b3946, .cells ⟨[.int .i64 y3936.Guest, .int .i64 y3936.Goal, .slice p3953 r3951.length c3954]⟩ 50 (0, 0))], sg3967, (sg3925 ++ (sg3955 ++ []))] := M3984.regroup (by simp)
      refine W_run 1 [(3, .slice p3978 ap3972.length c3979), (7, .slice p3784 x3782.length c3785), (8, .int .i64 (x3782.length : Int)), (9, .int .i64 s3912.2)] w3981 (by kernel_rfl) ?_
      refine W_nil ?_
      refine N_block ?_
      refine N_then ?_
      refine G_region ?_
      refine W_run 2 [(3, .slice p3978 ap3972.length c3979), (7, .slice p3784 x3782.length c3785), (8, .int .i64 (x3782.length : Int)), (9, .int .i64 (w64 (s3912.2 + 1)))] w3981 (by kernel_rfl) ?_
      refine W_nil ?_
      obtain rfl := Option.some.inj hm
      exact N_loop fun a ha => ⟨_, rfl, p3978, c3979, sg3980, (sg3925 ++ (sg3955 ++ [])), ho3982, M3985.pick [0, 3] (by kernel_rfl), ha.sub (by kernel_rfl)⟩
    refine G_cond_f (b := (decide (s3912.2 < (x3782.length : Int)))) hc3935 (by kernel_rfl) ?_
    refine G_exit ?_
    refine N_then_exit ?_
    refine N_then_exit ?_
    refine N_block_eq ?_
    obtain rfl := Option.some.inj hm
    obtain rfl := hout3914 _ rfl
    exact N_meet fun a ha => ⟨p3922, c3923, sg3924, sg3925, ho3926, M3917.pick [0, 1] (by kernel_rfl), ha.sub (by kernel_rfl)⟩
  intro a3987 w3988 ⟨p3929, c3930, sg3931, sg3932, ho3933, M3989, hS3990⟩
  refine N_use hS3990 ?_
  have hm := hmo3921
  refine N_then ?_
  refine G_seq ?_
  refine G_region ?_
  refine W_run 2 [(2, .slice p3929 out3919.length c3930)] w3988 (by kernel_rfl) ?_
  refine W_nil ?_
  refine N_then ?_
  refine G_ret ?_
  obtain rfl := Option.some.inj hm
  refine N_ret [.slice p3929 out3919.length c3930] (RVs_cons (RV_tmp (by kernel_rfl)) RVs_nil) ?_
  exact ⟨p3929, c3930, sg3931, sg3932, rfl, ho3933, M3989.pick [0, 1] (by kernel_rfl)⟩
theorem c_i_framesOf (w : World) (x4032 : List Int) (p4034 : Option Addr) (c4035 : Nat) (h4036 : rdS Gx.encI w x4032 p4034 c4035) (x4037 : Int) {r : (List Int)} (hm : M.i_framesOf x4032 x4037 = some r) :
    Calls Try.prog 66 #[.slice p4034 x4032.length c4035, .int .i64 x4037] w fun e w' => ∃ (p4039 : Option Addr) (c4040 : Nat) (sg4041 : Seg), e = .returned (.slice p4039 r.length c4040) ∧ ownS Gx.encI r p4039 c4040 sg4041 ∧ Mem [] w w' [sg4041] := by
  unfold M.i_framesOf at hm
  refine C_enter Try.func66 rfl (by kernel_rfl) ?_
  have M0 := Mem.refl [] w
  refine G_seq ?_
  refine G_region ?_
  refine W_run 1 [(0, .slice p4034 x4032.length c4035), (1, .int .i64 x4037)] w (by kernel_rfl) ?_
  refine W_nil ?_
  refine N_then ?_
  refine G_seq ?_
  refine G_region ?_
  refine W_lit (E := Gx.encI) ([] : List Int) 0 [] 3 M0 (by kernel_rfl) (by kernel_rfl) (by kernel_rfl) (by kernel_rfl) (by kernel_rfl) ?_
  intro p4043 c4044 sg4045 w4046 ho4047 M4048
  refine W_run 1 [(0, .slice p4034 x4032.length c4035), (1, .int .i64 x4037), (5, .slice p4043 ([] : List Int).length c4044)] w4046 (by kernel_rfl) ?_
  refine W_nil ?_
  refine N_then ?_
  refine G_seq ?_
  refine G_seq ?_
  refine G_region ?_
  refine W_run 3 [(1, .int .i64 x4037), (5, .slice p4043 ([] : List Int).length c4044), (9, .slice p4034 x4032.length c4035), (10, .int .i64 (x4032.length : Int)), (11, .int .i64 0)] w4046 (by kernel_rfl) ?_
  refine W_nil ?_
  refine N_then ?_
  obtain ⟨out4154, hw4155, hmo4156⟩ := gx_bind hm
  refine G_meet (fun a w' => ∃ (p4163 : Option Addr), ∃ (c4164 : Nat), ∃ (sg4165 : Seg), ownS Gx.encI out4154 p4163 c4164 sg4165 ∧ Mem [] w w' [sg4165] ∧ Sat Try.f66.ntmps [(5, .slice p4163 out4154.length c4164)] a) ?_ ?_
  · refine G_block ?_
    refine G_while (σ := List Int × Int) (ρ := List Int) (fun s4147 a w' => ∃ (p4157 : Option Addr), ∃ (c4158 : Nat), ∃ (sg4159 : Seg), ownS Gx.encI s4147.1 p4157 c4158 sg4159 ∧ Mem [] w w' [sg4159] ∧ Sat Try.f66.ntmps [(1, .int .i64 x4037), (5, .slice p4157 s4147.1.length c4158), (9, .slice p4034 x4032.length c4035), (10, .int .i64 (x4032.length : Int)), (11, .int .i64 s4147.2)] a) hw4155 (fun a ha => ⟨p4043, c4044, sg4045, ho4047, M4048.pick [0] (by kernel_rfl), ha.sub (by kernel_rfl)⟩) ?_
    clear hm
    intro s4147 x4148 hm hout4149 a4150 w4151 ⟨p4157, c4158, sg4159, ho4160, M4152, hS4153⟩
    refine G_use hS4153 ?_
    refine G_seq ?_
    refine G_region ?_
    refine W_run 1 [(1, .int .i64 x4037), (5, .slice p4157 s4147.1.length c4158), (9, .slice p4034 x4032.length c4035), (10, .int .i64 (x4032.length : Int)), (11, .int .i64 s4147.2), (12, .bool (decide (s4147.2 < (x4032.length : Int))))] w4151 (by kernel_rfl) ?_
    refine W_nil ?_
    refine N_then ?_
    refine G_seq ?_
    rcases gx_bif hm with ⟨hc4168, hm⟩ | ⟨hc4168, hm⟩
    · refine G_cond_t (b := (decide (s4147.2 < (x4032.length : Int)))) hc4168 (by kernel_rfl) ?_
      refine G_skip ?_
      refine N_then ?_
      refine G_seq ?_
      refine G_block ?_
      refine G_seq ?_
      refine G_region ?_
      refine W_run 1 [(1, .int .i64 x4037), (5, .slice p4157 s4147.1.length c4158), (9, .slice p4034 x4032.length c4035), (10, .int .i64 (x4032.length : Int)), (11, .int .i64 s4147.2), (13, .int .i64 s4147.2)] w4151 (by kernel_rfl) ?_
      obtain ⟨y4169, hy4169, hm⟩ := gx_bind hm
      refine W_val (elemP p4034 (s4147.2.toNat * 1)) w4151 (by kernel_rfl) (E_index (E := Gx.encI) _ _ _ x4032.length c4035 .i64 s4147.2 1 (y := y4169) rfl (by kernel_rfl) (by kernel_rfl) (by kernel_rfl) (h4036.mem0 M4152) rfl hy4169) ?_
      refine W_val (.int .i64 y4169) w4151 (by kernel_rfl) (E_loadE (E := Gx.encI) _ _ false 1 s4147.2 0 (s4147.2.toNat * 1) y4169 (.int .i64 y4169) rfl (by kernel_rfl) (by kernel_rfl) (by kernel_rfl) (h4036.mem0 M4152) hy4169 rfl) ?_
      refine W_run 2 [(1, .int .i64 x4037), (5, .slice p4157 s4147.1.length c4158), (6, .int .i64 s4147.2), (7, .int .i64 y4169), (9, .slice p4034 x4032.length c4035), (10, .int .i64 (x4032.length : Int)), (11, .int .i64 s4147.2)] w4151 (by kernel_rfl) ?_
      refine W_nil ?_
      refine N_then ?_
      refine G_seq ?_
      refine G_region ?_
      refine W_run 3 [(1, .int .i64 x4037), (5, .slice p4157 s4147.1.length c4158), (6, .int .i64 s4147.2), (9, .slice p4034 x4032.length c4035), (10, .int .i64 (x4032.length : Int)), (11, .int .i64 s4147.2), (18, .bool (y4169 == x4037))] w4151 (by kernel_rfl) ?_
      refine W_nil ?_
      refine N_then ?_
      obtain ⟨o4186, ho4187, hm4188⟩ := gx_bind hm
      refine G_meet (fun a w' => ∃ (p4189 : Option Addr), ∃ (c4190 : Nat), ∃ (sg4191 : Seg), ownS Gx.encI o4186 p4189 c4190 sg4191 ∧ Mem [] w w' [sg4191] ∧ Sat Try.f66.ntmps [(1, .int .i64 x4037), (5, .slice p4189 o4186.length c4190), (9, .slice p4034 x4032.length c4035), (10, .int .i64 (x4032.length : Int)), (11, .int .i64 s4147.2)] a) ?_ ?_
      · have hm := ho4187
        rcases gx_bif hm with ⟨hc4194, hm⟩ | ⟨hc4194, hm⟩
        · refine G_cond_t (b := (y4169 == x4037)) hc4194 (by kernel_rfl) ?_
          refine G_region ?_
          refine W_run 2 [(1, .int .i64 x4037), (5, .slice p4157 s4147.1.length c4158), (9, .slice p4034 x4032.length c4035), (10, .int .i64 (x4032.length : Int)), (11, .int .i64 s4147.2), (19, .slice p4157 s4147.1.length c4158), (20, .int .i64 s4147.2)] w4151 (by kernel_rfl) ?_
          refine W_lit (E := Gx.encI) [s4147.2] 1 [.int .i64 s4147.2] 3 M4152 (by kernel_rfl) (by kernel_rfl) (by kernel_rfl) (by kernel_rfl) (by kernel_rfl) ?_
          intro p4195 c4196 sg4197 w4198 ho4199 M4200
          obtain ⟨ap4202, hap4202, hm⟩ := gx_bind hm
          refine W_append (E := Gx.encI) _ _ _ 8 [.int .i64 0] 0 c4196 M4200 ho4160 (by kernel_rfl) (by kernel_rfl) (by kernel_rfl) rfl (by kernel_rfl) (by kernel_rfl) (by kernel_rfl) (by kernel_rfl) (by kernel_rfl) (by kernel_rfl) (ho4199.rd M4200 1 (by kernel_rfl)) hap4202 ?_
          intro p4203 c4204 sg4205 w4206 ho4207 M4208
          refine W_run 1 [(1, .int .i64 x4037), (5, .slice p4203 ap4202.length c4204), (9, .slice p4034 x4032.length c4035), (10, .int .i64 (x4032.length : Int)), (11, .int .i64 s4147.2)] w4206 (by kernel_rfl) ?_
          refine W_nil ?_
          obtain rfl := Option.some.inj hm
          exact N_meet fun a ha => ⟨p4203, c4204, sg4205, ho4207, M4208.pick [0] (by kernel_rfl), ha.sub (by kernel_rfl)⟩
        refine G_cond_f (b := (y4169 == x4037)) hc4194 (by kernel_rfl) ?_
        refine G_skip ?_
        obtain rfl := Option.some.inj hm
        exact N_meet fun a ha => ⟨p4157, c4158, sg4159, ho4160, M4152.pick [0] (by kernel_rfl), ha.sub (by kernel_rfl)⟩
      intro a4212 w4210 ⟨p4189, c4190, sg4191, ho4192, M4211, hS4213⟩
      refine N_use hS4213 ?_
      have hm := hm4188
      refine N_block ?_
      refine N_then ?_
      refine G_region ?_
      refine W_run 2 [(1, .int .i64 x4037), (5, .slice p4189 o4186.length c4190), (9, .slice p4034 x4032.length c4035), (10, .int .i64 (x4032.length : Int)), (11, .int .i64 (w64 (s4147.2 + 1)))] w4210 (by kernel_rfl) ?_
      refine W_nil ?_
      obtain rfl := Option.some.inj hm
      exact N_loop fun a ha => ⟨_, rfl, p4189, c4190, sg4191, ho4192, M4211.pick [0] (by kernel_rfl), ha.sub (by kernel_rfl)⟩
    refine G_cond_f (b := (decide (s4147.2 < (x4032.length : Int)))) hc4168 (by kernel_rfl) ?_
    refine G_exit ?_
    refine N_then_exit ?_
    refine N_then_exit ?_
    refine N_block_eq ?_
    obtain rfl := Option.some.inj hm
    obtain rfl := hout4149 _ rfl
    exact N_meet fun a ha => ⟨p4157, c4158, sg4159, ho4160, M4152.pick [0] (by kernel_rfl), ha.sub (by kernel_rfl)⟩
  intro a4214 w4215 ⟨p4163, c4164, sg4165, ho4166, M4216, hS4217⟩
  refine N_use hS4217 ?_
  have hm := hmo4156
  refine N_then ?_
  refine G_seq ?_
  refine G_region ?_
  refine W_run 2 [(4, .slice p4163 out4154.length c4164)] w4215 (by kernel_rfl) ?_
  refine W_nil ?_
  refine N_then ?_
  refine G_ret ?_
  obtain rfl := Option.some.inj hm
  refine N_ret [.slice p4163 out4154.length c4164] (RVs_cons (RV_tmp (by kernel_rfl)) RVs_nil) ?_
  exact ⟨p4163, c4164, sg4165, rfl, ho4166, M4216.pick [0] (by kernel_rfl)⟩
theorem c_slices_Sort_88 (w : World) (x4364 : List Int) (p4366 : Option Addr) (c4367 : Nat) (sg4368 : Seg) (ho4369 : ownS Gx.encI x4364 p4366 c4367 sg4368) (hA : ∀ q ∈ List.flatten [sg4368], w.heap[q.1]? = some q.2) (hN : (idsOf [sg4368]).Nodup) {r : (List Int)} (hm : M.slices_Sort_88 x4364 = some r) :
    Calls Try.prog 88 #[.slice p4366 x4364.length c4367] w fun e w' => ∃ (sg4370 : Seg), e = .returned (.tuple #[]) ∧ ownS Gx.encI r p4366 c4367 sg4370 ∧ r.length = x4364.length ∧ Mem (idsOf [sg4368]) w w' [sg4370] := by
  unfold M.slices_Sort_88 at hm
  rcases gx_bif hm with ⟨h, hm⟩ | ⟨h, hm⟩
  · obtain rfl := Option.some.inj hm
    exact sortI_run Try.slices_Sort_int Try.slices_Sort_int_none w x4364 p4366 c4367 sg4368 ho4369 hA hN (of_decide_eq_true h)
  cases hm
theorem c_i_inflate__e1 (w : World) (x4251 : List Int) (p4253 : Option Addr) (c4254 : Nat) (sg4255 : Seg) (ho4256 : ownS Gx.encI x4251 p4253 c4254 sg4255) (x4257 : List Balloon) (p4259 : Option Addr) (c4260 : Nat) (sg4261 : Seg) (sg4262 : Seg) (ho4263 : ownD deepBalloon x4257 p4259 c4260 sg4261 sg4262) (x4264 : Int) (hA : ∀ q ∈ List.flatten [sg4255, sg4261, sg4262], w.heap[q.1]? = some q.2) (hN : (idsOf [sg4255, sg4261, sg4262]).Nodup) {r : Bool × (List Int) × (List Balloon)} (hm : M.i_inflate__e1 x4251 x4257 x4264 = some r) :
    Calls Try.prog 70 #[.slice p4253 x4251.length c4254, elemP p4259 (x4264.toNat * 3)] w fun e w' => ∃ (sg4272 : Seg), ∃ (sg4273 : Seg) (sg4274 : Seg), e = .returned (.bool r.1) ∧ ownS Gx.encI r.2.1 p4253 c4254 sg4272 ∧ r.2.1.length = x4251.length ∧ ownD deepBalloon r.2.2 p4259 c4260 sg4273 sg4274 ∧ r.2.2.length = x4257.length ∧ Mem (idsOf [sg4255, sg4261, sg4262]) w w' [sg4272, sg4273, sg4274] := by
  unfold M.i_inflate__e1 at hm
  refine C_enter Try.func70 rfl (by kernel_rfl) ?_
  have M0 := Mem.start' w [sg4255, sg4261, sg4262] hA hN
  obtain ⟨y4265, hy4265, hm⟩ := gx_bind hm
  obtain ⟨zs4266, hz4267, hr4268, hi4269⟩ := id ho4263
  obtain ⟨g4270, hg4271⟩ := gxIdx_fst hz4267 hy4265
  refine G_seq ?_
  refine G_region ?_
  refine W_run 1 [(0, .slice p4253 x4251.length c4254), (1, elemP p4259 (x4264.toNat * 3))] w (by kernel_rfl) ?_
  refine W_nil ?_
  refine N_then ?_
  refine G_seq ?_
  refine G_region ?_
  refine W_run 2 [(0, .slice p4253 x4251.length c4254), (1, elemP p4259 (x4264.toNat * 3)), (7, .slice p4253 x4251.length c4254), (8, elemP p4259 (x4264.toNat * 3))] w (by kernel_rfl) ?_
  refine W_val (elemP p4259 (x4264.toNat * 3)) w (by kernel_rfl) (E_nilE (E := deepBalloon.E) _ (x4264.toNat * 3) rfl (by kernel_rfl) (hr4268.rd M0 1 (by kernel_rfl)) hg4271) ?_
  refine W_val (elemP p4259 (x4264.toNat * 3 + 0)) w (by kernel_rfl) (E_fieldE (E := deepBalloon.E) _ _ 0 (x4264.toNat * 3) 0 rfl (by kernel_rfl) (by kernel_rfl) (hr4268.rd M0 1 (by kernel_rfl)) hg4271) ?_
  refine W_val (.int .i64 y4265.Guest) w (by kernel_rfl) (E_loadE (E := deepBalloon.E) _ _ false 1 x4264 0 (x4264.toNat * 3 + 0) (y4265, g4270) (.int .i64 y4265.Guest) rfl (by kernel_rfl) (by kernel_rfl) (by kernel_rfl) (hr4268.rd M0 1 (by kernel_rfl)) hg4271 rfl) ?_
  obtain ⟨r4276, hr4276, hm⟩ := gx_bind hm
  refine W_call 66 #[.slice p4253 x4251.length c4254, .int .i64 y4265.Guest] (by kernel_rfl) (by kernel_rfl) ?_
  refine (c_i_framesOf w x4251 p4253 c4254 (ho4256.rd M0 0 (by kernel_rfl)) y4265.Guest hr4276).mono ?_
  rintro e_ w4282 ⟨p4278, c4279, sg4280, rfl, ho4281, K4283⟩
  have M4284 := M0.call K4283
  refine ⟨_, rfl, ?_⟩
  refine W_run 1 [(0, .slice p4253 x4251.length c4254), (1, elemP p4259 (x4264.toNat * 3)), (5, .slice p4278 r4276.length c4279)] w4282 (by kernel_rfl) ?_
  refine W_nil ?_
  refine N_then ?_
  refine G_seq ?_
  refine G_seq ?_
  obtain ⟨o4292, ho4293, hm4294⟩ := gx_bind hm
  refine G_meet (fun a w' => Mem (idsOf [sg4255, sg4261, sg4262]) w w' [sg4255, sg4261, sg4262, sg4280] ∧ Sat Try.f70.ntmps [(0, .slice p4253 x4251.length c4254), (1, elemP p4259 (x4264.toNat * 3)), (5, .slice p4278 r4276.length c4279), (27, .bool o4292)] a) ?_ ?_
  · have hm := ho4293
    refine G_quiet (by kernel_rfl) (by kernel_rfl) M4284 ?_
    refine Z_runs [elemP p4259 (x4264.toNat * 3)] [(0, .slice p4253 x4251.length c4254), (1, elemP p4259 (x4264.toNat * 3)), (5, .slice p4278 r4276.length c4279), (13, elemP p4259 (x4264.toNat * 3))] (fun w_ => by kernel_rfl) (by kernel_rfl) ?_
    refine Z_val (elemP p4259 (x4264.toNat * 3)) (by kernel_rfl) (fun w_ M_ => (E_nilE (E := deepBalloon.E) _ (x4264.toNat * 3) rfl (by kernel_rfl) (hr4268.rd M_ 1 (by kernel_rfl)) hg4271)) ?_
    refine Z_val (elemP p4259 (x4264.toNat * 3 + 2)) (by kernel_rfl) (fun w_ M_ => (E_fieldE (E := deepBalloon.E) _ _ 2 (x4264.toNat * 3) 2 rfl (by kernel_rfl) (by kernel_rfl) (hr4268.rd M_ 1 (by kernel_rfl)) hg4271)) ?_
    refine Z_val (.slice ((g4270 0).1) y4265.Gave.length ((g4270 0).2)) (by kernel_rfl) (fun w_ M_ => (E_loadE (E := deepBalloon.E) _ _ false 1 x4264 2 (x4264.toNat * 3 + 2) (y4265, g4270) (.slice ((g4270 0).1) y4265.Gave.length ((g4270 0).2)) rfl (by kernel_rfl) (by kernel_rfl) (by kernel_rfl) (hr4268.rd M_ 1 (by kernel_rfl)) hg4271 rfl)) ?_
    refine Z_runs [.int .i64 (y4265.Gave.length : Int), elemP p4259 (x4264.toNat * 3)] [(0, .slice p4253 x4251.length c4254), (1, elemP p4259 (x4264.toNat * 3)), (5, .slice p4278 r4276.length c4279), (17, .int .i64 (y4265.Gave.length : Int)), (18, elemP p4259 (x4264.toNat * 3))] (fun w_ => by kernel_rfl) (by kernel_rfl) ?_
    refine Z_val (elemP p4259 (x4264.toNat * 3)) (by kernel_rfl) (fun w_ M_ => (E_nilE (E := deepBalloon.E) _ (x4264.toNat * 3) rfl (by kernel_rfl) (hr4268.rd M_ 1 (by kernel_rfl)) hg4271)) ?_
    refine Z_val (elemP p4259 (x4264.toNat * 3 + 1)) (by kernel_rfl) (fun w_ M_ => (E_fieldE (E := deepBalloon.E) _ _ 1 (x4264.toNat * 3) 1 rfl (by kernel_rfl) (by kernel_rfl) (hr4268.rd M_ 1 (by kernel_rfl)) hg4271)) ?_
    refine Z_val (.int .i64 y4265.Goal) (by kernel_rfl) (fun w_ M_ => (E_loadE (E := deepBalloon.E) _ _ false 1 x4264 1 (x4264.toNat * 3 + 1) (y4265, g4270) (.int .i64 y4265.Goal) rfl (by kernel_rfl) (by kernel_rfl) (by kernel_rfl) (hr4268.rd M_ 1 (by kernel_rfl)) hg4271 rfl)) ?_
    refine Z_runs [.bool (decide ((y4265.Gave.length : Int) ≥ y4265.Goal)), .bool (decide ((y4265.Gave.length : Int) ≥ y4265.Goal))] [(0, .slice p4253 x4251.length c4254), (1, elemP p4259 (x4264.toNat * 3)), (5, .slice p4278 r4276.length c4279), (23, .bool (decide ((y4265.Gave.length : Int) ≥ y4265.Goal)))] (fun w_ => by kernel_rfl) (by kernel_rfl) ?_
    rcases gx_bif hm with ⟨hc4297, hm⟩ | ⟨hc4297, hm⟩
    · refine Z_known 23 true (by kernel_rfl) hc4297 ?_
      refine Z_runs [undef, undef, undef, .bool true] [(0, .slice p4253 x4251.length c4254), (1, elemP p4259 (x4264.toNat * 3)), (5, .slice p4278 r4276.length c4279), (27, .bool true)] (fun w_ => by kernel_rfl) (by kernel_rfl) ?_
      refine Z_end fun w4298 M4299 => ?_
      obtain rfl := Option.some.inj hm
      exact N_meet fun a ha => ⟨M4299.pick [0, 1, 2, 3] (by kernel_rfl), ha.sub (by kernel_rfl)⟩
    refine Z_known 23 false (by kernel_rfl) hc4297 ?_
    refine Z_runs [.slice p4278 r4276.length c4279, .int .i64 (r4276.length : Int), .bool (decide ((r4276.length : Int) < 2)), .bool (decide ((r4276.length : Int) < 2))] [(0, .slice p4253 x4251.length c4254), (1, elemP p4259 (x4264.toNat * 3)), (5, .slice p4278 r4276.length c4279), (27, .bool (decide ((r4276.length : Int) < 2)))] (fun w_ => by kernel_rfl) (by kernel_rfl) ?_
    refine Z_end fun w4300 M4301 => ?_
    obtain rfl := Option.some.inj hm
    exact N_meet fun a ha => ⟨M4301.pick [0, 1, 2, 3] (by kernel_rfl), ha.sub (by kernel_rfl)⟩
  intro a4304 w4302 ⟨M4303, hS4305⟩
  refine N_use hS4305 ?_
  have hm := hm4294
  refine N_then ?_
  rcases gx_bif hm with ⟨hc4306, hm⟩ | ⟨hc4306, hm⟩
  · refine G_cond_t (b := o4292) hc4306 (by kernel_rfl) ?_
    refine G_seq ?_
    refine G_region ?_
    refine W_run 1 [(4, .bool false)] w4302 (by kernel_rfl) ?_
    refine W_nil ?_
    refine N_then ?_
    refine G_ret ?_
    refine N_then_ret ?_
    obtain rfl := Option.some.inj hm
    refine N_ret [.bool false] (RVs_cons (RV_tmp (by kernel_rfl)) RVs_nil) ?_
    exact ⟨sg4255, sg4261, sg4262, rfl, ho4256, rfl, ho4263, rfl, M4303.pick [0, 1, 2] (by kernel_rfl)⟩
  refine G_cond_f (b := o4292) hc4306 (by kernel_rfl) ?_
  refine G_skip ?_
  refine N_then ?_
  refine G_seq ?_
  refine G_region ?_
  refine W_run 4 [(0, .slice p4253 x4251.length c4254), (1, elemP p4259 (x4264.toNat * 3)), (28, .slice p4278 r4276.length c4279), (31, .int .i64 (w64 ((r4276.length : Int) - 1)))] w4302 (by kernel_rfl) ?_
  obtain ⟨y4307, hy4307, hm⟩ := gx_bind hm
  refine W_val (elemP p4278 ((w64 ((r4276.length : Int) - 1)).toNat * 1)) w4302 (by kernel_rfl) (E_index (E := Gx.encI) _ _ _ r4276.length c4279 .i64 (w64 ((r4276.length : Int) - 1)) 1 (y := y4307) rfl (by kernel_rfl) (by kernel_rfl) (by kernel_rfl) (ho4281.rd M4303 3 (by kernel_rfl)) rfl hy4307) ?_
  refine W_val (.int .i64 y4307) w4302 (by kernel_rfl) (E_loadE (E := Gx.encI) _ _ false 1 (w64 ((r4276.length : Int) - 1)) 0 ((w64 ((r4276.length : Int) - 1)).toNat * 1) y4307 (.int .i64 y4307) rfl (by kernel_rfl) (by kernel_rfl) (by kernel_rfl) (ho4281.rd M4303 3 (by kernel_rfl)) hy4307 rfl) ?_
  refine W_run 1 [(0, .slice p4253 x4251.length c4254), (1, elemP p4259 (x4264.toNat * 3)), (6, .int .i64 y4307)] w4302 (by kernel_rfl) ?_
  refine W_nil ?_
  refine N_then ?_
  refine G_seq ?_
  refine G_region ?_
  refine W_run 2 [(1, elemP p4259 (x4264.toNat * 3)), (6, .int .i64 y4307), (34, .slice p4253 x4251.length c4254), (35, .int .i64 y4307)] w4302 (by kernel_rfl) ?_
  obtain ⟨y4308, hy4308, hm⟩ := gx_bind hm
  refine W_val (elemP p4253 (y4307.toNat * 1)) w4302 (by kernel_rfl) (E_index (E := Gx.encI) _ _ _ x4251.length c4254 .i64 y4307 1 (y := y4308) rfl (by kernel_rfl) (by kernel_rfl) (by kernel_rfl) (ho4256.rd M4303 0 (by kernel_rfl)) rfl hy4308) ?_
  refine W_storeE (E := Gx.encI) _ _ _ false 1 y4307.toNat 0 (y4307.toNat * 1) y4308 0 (.int .i64 0) 0 M4303 ho4256 (by kernel_rfl) (by kernel_rfl) rfl (by kernel_rfl) (by kernel_rfl) (by kernel_rfl) (by kernel_rfl) (by kernel_rfl) (by kernel_rfl) (by kernel_rfl) (gxIdx_spec hy4308).2 rfl ?_
  intro w4309 sg4311 ho4312 M4310
  refine W_conv 34 (.slice p4253 x4251.length c4254) (.slice p4253 (x4251.set y4307.toNat 0).length c4254) (by kernel_rfl) (by rw [@List.length_set _ x4251 y4307.toNat 0]) ?_
  refine W_nil ?_
  refine N_then ?_
  refine G_seq ?_
  refine G_region ?_
  refine W_run 2 [(1, elemP p4259 (x4264.toNat * 3)), (6, .int .i64 y4307), (37, elemP p4259 (x4264.toNat * 3)), (38, elemP p4259 (x4264.toNat * 3))] w4309 (by kernel_rfl) ?_
  refine W_val (elemP p4259 (x4264.toNat * 3)) w4309 (by kernel_rfl) (E_nilE (E := deepBalloon.E) _ (x4264.toNat * 3) rfl (by kernel_rfl) (hr4268.rd M4310 1 (by kernel_rfl)) hg4271) ?_
  refine W_val (elemP p4259 (x4264.toNat * 3 + 2)) w4309 (by kernel_rfl) (E_fieldE (E := deepBalloon.E) _ _ 2 (x4264.toNat * 3) 2 rfl (by kernel_rfl) (by kernel_rfl) (hr4268.rd M4310 1 (by kernel_rfl)) hg4271) ?_
  refine W_val (.slice ((g4270 0).1) y4265.Gave.length ((g4270 0).2)) w4309 (by kernel_rfl) (E_loadE (E := deepBalloon.E) _ _ false 1 x4264 2 (x4264.toNat * 3 + 2) (y4265, g4270) (.slice ((g4270 0).1) y4265.Gave.length ((g4270 0).2)) rfl (by kernel_rfl) (by kernel_rfl) (by kernel_rfl) (hr4268.rd M4310 1 (by kernel_rfl)) hg4271 rfl) ?_
  refine W_run 1 [(1, elemP p4259 (x4264.toNat * 3)), (37, elemP p4259 (x4264.toNat * 3)), (41, .slice ((g4270 0).1) y4265.Gave.length ((g4270 0).2)), (42, .int .i64 y4307)] w4309 (by kernel_rfl) ?_
  refine W_lit (E := Gx.encI) [y4307] 1 [.int .i64 y4307] 3 M4310 (by kernel_rfl) (by kernel_rfl) (by kernel_rfl) (by kernel_rfl) (by kernel_rfl) ?_
  intro p4314 c4315 sg4316 w4317 ho4318 M4319
  obtain ⟨sa4321, sb4322, sc4323, hs4324, hb4325, hp4326⟩ := hi4269.lens (gxIdx_spec hg4271).2
  have M4327 := M4319.cut 2 (sa := sa4321) (sb := sb4322) (sc := sc4323) hs4324 (by kernel_rfl)
  obtain ⟨u4328, r4329, hu4330, ho4331, hr4332⟩ := hb4325
  have M4333 := M4327.cut 5 (sa := []) (sb := u4328) (sc := r4329) hu4330 (by kernel_rfl)
  obtain ⟨ap4335, hap4335, hm⟩ := gx_bind hm
  refine W_append (E := Gx.encI) _ _ _ 8 [.int .i64 0] 7 c4315 M4333 ho4331 (by kernel_rfl) (by kernel_rfl) (by kernel_rfl) rfl (by kernel_rfl) (by kernel_rfl) (by kernel_rfl) (by kernel_rfl) (by kernel_rfl) (by kernel_rfl) (ho4318.rd M4333 4 (by kernel_rfl)) hap4335 ?_
  intro p4336 c4337 sg4338 w4339 ho4340 M4341
  refine W_val (elemP p4259 (x4264.toNat * 3)) w4339 (by kernel_rfl) (E_nilE (E := deepBalloon.E) _ (x4264.toNat * 3) rfl (by kernel_rfl) (hr4268.rd M4341 1 (by kernel_rfl)) hg4271) ?_
  refine W_val (elemP p4259 (x4264.toNat * 3 + 2)) w4339 (by kernel_rfl) (E_fieldE (E := deepBalloon.E) _ _ 2 (x4264.toNat * 3) 2 rfl (by kernel_rfl) (by kernel_rfl) (hr4268.rd M4341 1 (by kernel_rfl)) hg4271) ?_
  refine W_storeE (E := deepBalloon.E) _ _ _ false 1 x4264.toNat 2 (x4264.toNat * 3 + 2) (y4265, g4270) ((⟨y4265.Guest, y4265.Goal, ap4335⟩ : Balloon), (plOf [(p4336, c4337)])) (.slice p4336 ap4335.length c4337) 1 M4341 hr4268 (by kernel_rfl) (by kernel_rfl) rfl (by kernel_rfl) (by kernel_rfl) (by kernel_rfl) (by kernel_rfl) (by kernel_rfl) (by kernel_rfl) (by kernel_rfl) (gxIdx_spec hg4271).2 rfl ?_
  intro w4344 sg4346 ho4347 M4345
  have M4348 : Mem (idsOf [sg4255, sg4261, sg4262]) w w4344 [sg4311, sg4346, sg4280, sg4316, [], sa4321, sg4338, sc4323] := M4345.pick [0, 1, 3, 4, 5, 2, 7, 6] (by kernel_rfl)
  have M4349 : Mem (idsOf [sg4255, sg4261, sg4262]) w w4344 [sg4311, sg4346, sg4280, sg4316, [], (sa4321 ++ ((sg4338 ++ []) ++ sc4323))] := M4348.regroup (by simp)
  have ho4350 : ownD deepBalloon (x4257.set x4264.toNat (⟨y4265.Guest, y4265.Goal, ap4335⟩ : Balloon)) p4259 c4260 sg4346 (sa4321 ++ ((sg4338 ++ []) ++ sc4323)) := ⟨_, set_fst hz4267 x4264.toNat ((⟨y4265.Guest, y4265.Goal, ap4335⟩ : Balloon), (plOf [(p4336, c4337)])), ho4347, hp4326 ((⟨y4265.Guest, y4265.Goal, ap4335⟩ : Balloon), (plOf [(p4336, c4337)])) _ (ownI_cons (i := ⟨Int, Gx.encI, _, _, _⟩) ho4340 ownI_nil)⟩
  have hput4351 := gxIdx_put (⟨y4265.Guest, y4265.Goal, ap4335⟩ : Balloon) (gxIdx_down hz4267 hg4271)
  refine W_nil ?_
  refine N_then ?_
  refine G_seq ?_
  refine G_region ?_
  refine W_run 1 [(47, elemP p4259 (x4264.toNat * 3))] w4344 (by kernel_rfl) ?_
  obtain ⟨zs4352, hz4353, hr4354, hi4355⟩ := id ho4350
  obtain ⟨g4356, hg4357⟩ := gxIdx_fst hz4353 hput4351
  refine W_val (elemP p4259 (x4264.toNat * 3)) w4344 (by kernel_rfl) (E_nilE (E := deepBalloon.E) _ (x4264.toNat * 3) rfl (by kernel_rfl) (hr4354.rd M4349 1 (by kernel_rfl)) hg4357) ?_
  refine W_val (elemP p4259 (x4264.toNat * 3 + 2)) w4344 (by kernel_rfl) (E_fieldE (E := deepBalloon.E) _ _ 2 (x4264.toNat * 3) 2 rfl (by kernel_rfl) (by kernel_rfl) (hr4354.rd M4349 1 (by kernel_rfl)) hg4357) ?_
  refine W_val (.slice ((g4356 0).1) ((⟨y4265.Guest, y4265.Goal, ap4335⟩ : Balloon).Gave).length ((g4356 0).2)) w4344 (by kernel_rfl) (E_loadE (E := deepBalloon.E) _ _ false 1 x4264 2 (x4264.toNat * 3 + 2) ((⟨y4265.Guest, y4265.Goal, ap4335⟩ : Balloon), g4356) (.slice ((g4356 0).1) ((⟨y4265.Guest, y4265.Goal, ap4335⟩ : Balloon).Gave).length ((g4356 0).2)) rfl (by kernel_rfl) (by kernel_rfl) (by kernel_rfl) (hr4354.rd M4349 1 (by kernel_rfl)) hg4357 rfl) ?_
  obtain ⟨sa4372, sb4373, sc4374, hs4375, hb4376, hp4377⟩ := hi4355.lens (gxIdx_spec hg4357).2
  have M4378 := M4349.cut 5 (sa := sa4372) (sb := sb4373) (sc := sc4374) hs4375 (by kernel_rfl)
  obtain ⟨u4379, r4380, hu4381, ho4382, hr4383⟩ := hb4376
  have M4384 := M4378.cut 6 (sa := []) (sb := u4379) (sc := r4380) hu4381 (by kernel_rfl)
  obtain ⟨r4371, hr4371, hm⟩ := gx_bind hm
  refine W_call 88 #[.slice ((g4356 0).1) ((⟨y4265.Guest, y4265.Goal, ap4335⟩ : Balloon).Gave).length ((g4356 0).2)] (by kernel_rfl) (by kernel_rfl) ?_
  refine (c_slices_Sort_88 w4344 ((⟨y4265.Guest, y4265.Goal, ap4335⟩ : Balloon).Gave) ((g4356 0).1) ((g4356 0).2) u4379 ho4382 (M4384.hasPick [8]) (M4384.nodupPick [8] (by kernel_rfl)) hr4371).mono ?_
  rintro e_ w4389 ⟨sg4386, rfl, ho4387, hl4388, K4390⟩
  have M4391 := M4384.callF' [8] [0, 1, 2, 3, 4, 5, 6, 7, 9] (by kernel_rfl) K4390
  refine ⟨_, rfl, ?_⟩
  refine W_conv 50 (.slice ((g4356 0).1) ((⟨y4265.Guest, y4265.Goal, ap4335⟩ : Balloon).Gave).length ((g4356 0).2)) (.slice ((g4356 0).1) r4371.length ((g4356 0).2)) (by kernel_rfl) (by first | rw [hl4388] | rw [hl4388]) ?_
  have M4393 : Mem (idsOf [sg4255, sg4261, sg4262]) w w4389 [sg4311, sg4346, sg4280, sg4316, [], [], sa4372, sg4386, sc4374] := M4391.pick [0, 1, 2, 3, 4, 6, 5, 9, 7] (by kernel_rfl)
  have M4394 : Mem (idsOf [sg4255, sg4261, sg4262]) w w4389 [sg4311, sg4346, sg4280, sg4316, [], [], (sa4372 ++ ((sg4386 ++ []) ++ sc4374))] := M4393.regroup (by simp)
  have ho4395 : ownD deepBalloon ((x4257.set x4264.toNat (⟨y4265.Guest, y4265.Goal, ap4335⟩ : Balloon)).set x4264.toNat (⟨(⟨y4265.Guest, y4265.Goal, ap4335⟩ : Balloon).Guest, (⟨y4265.Guest, y4265.Goal, ap4335⟩ : Balloon).Goal, r4371⟩ : Balloon)) p4259 c4260 sg4346 (sa4372 ++ ((sg4386 ++ []) ++ sc4374)) := ⟨_, set_fst hz4353 x4264.toNat ((⟨(⟨y4265.Guest, y4265.Goal, ap4335⟩ : Balloon).Guest, (⟨y4265.Guest, y4265.Goal, ap4335⟩ : Balloon).Goal, r4371⟩ : Balloon), g4356), (hr4354.setSame (z' := ((⟨(⟨y4265.Guest, y4265.Goal, ap4335⟩ : Balloon).Guest, (⟨y4265.Guest, y4265.Goal, ap4335⟩ : Balloon).Goal, r4371⟩ : Balloon), g4356)) (gxIdx_spec hg4357).2 (by show ([.int .i64 ((⟨y4265.Guest, y4265.Goal, ap4335⟩ : Balloon).Guest), .int .i64 ((⟨y4265.Guest, y4265.Goal, ap4335⟩ : Balloon).Goal), .slice ((g4356 0).1) r4371.length ((g4356 0).2)] : List Value) = [.int .i64 ((⟨y4265.Guest, y4265.Goal, ap4335⟩ : Balloon).Guest), .int .i64 ((⟨y4265.Guest, y4265.Goal, ap4335⟩ : Balloon).Goal), .slice ((g4356 0).1) ((⟨y4265.Guest, y4265.Goal, ap4335⟩ : Balloon).Gave).length ((g4356 0).2)]; rw [hl4388])), hp4377 ((⟨(⟨y4265.Guest, y4265.Goal, ap4335⟩ : Balloon).Guest, (⟨y4265.Guest, y4265.Goal, ap4335⟩ : Balloon).Goal, r4371⟩ : Balloon), g4356) _ (ownI_cons (i := ⟨Int, Gx.encI, _, _, _⟩) ho4387 ownI_nil)⟩
  have hput4396 := gxIdx_put (⟨(⟨y4265.Guest, y4265.Goal, ap4335⟩ : Balloon).Guest, (⟨y4265.Guest, y4265.Goal, ap4335⟩ : Balloon).Goal, r4371⟩ : Balloon) (gxIdx_down hz4353 hg4357)
  refine W_nil ?_
  refine N_then ?_
  refine G_seq ?_
  refine G_region ?_
  refine W_run 1 [(4, .bool true)] w4389 (by kernel_rfl) ?_
  refine W_nil ?_
  refine N_then ?_
  refine G_ret ?_
  obtain rfl := Option.some.inj hm
  refine N_ret [.bool true] (RVs_cons (RV_tmp (by kernel_rfl)) RVs_nil) ?_
  exact ⟨sg4311, sg4346, (sa4372 ++ ((sg4386 ++ []) ++ sc4374)), rfl, ho4312, (List.length_set.trans rfl), ho4395, (List.length_set.trans (List.length_set.trans rfl)), M4394.pick [0, 1, 6] (by kernel_rfl)⟩
theorem c_i_deflate__e1 (w : World) (x4497 : List Int) (p4499 : Option Addr) (c4500 : Nat) (sg4501 : Seg) (ho4502 : ownS Gx.encI x4497 p4499 c4500 sg4501) (x4503 : List Balloon) (p4505 : Option Addr) (c4506 : Nat) (sg4507 : Seg) (sg4508 : Seg) (ho4509 : ownD deepBalloon x4503 p4505 c4506 sg4507 sg4508) (x4510 : Int) (hA : ∀ q ∈ List.flatten [sg4501, sg4507, sg4508], w.heap[q.1]? = some q.2) (hN : (idsOf [sg4501, sg4507, sg4508]).Nodup) {r : Bool × (List Int) × (List Balloon)} (hm : M.i_deflate__e1 x4497 x4503 x4510 = some r) :
    Calls Try.prog 69 #[.slice p4499 x4497.length c4500, elemP p4505 (x4510.toNat * 3)] w fun e w' => ∃ (sg4518 : Seg), ∃ (sg4519 : Seg) (sg4520 : Seg), e = .returned (.bool r.1) ∧ ownS Gx.encI r.2.1 p4499 c4500 sg4518 ∧ r.2.1.length = x4497.length ∧ ownD deepBalloon r.2.2 p4505 c4506 sg4519 sg4520 ∧ r.2.2.length = x4503.length ∧ Mem (idsOf [sg4501, sg4507, sg4508]) w w' [sg4518, sg4519, sg4520] := by
  unfold M.i_deflate__e1 at hm
  refine C_enter Try.func69 rfl (by kernel_rfl) ?_
  have M0 := Mem.start' w [sg4501, sg4507, sg4508] hA hN
  obtain ⟨y4511, hy4511, hm⟩ := gx_bind hm
  obtain ⟨zs4512, hz4513, hr4514, hi4515⟩ := id ho4509
  obtain ⟨g4516, hg4517⟩ := gxIdx_fst hz4513 hy4511
  refine G_seq ?_
  refine G_region ?_
  refine W_run 1 [(0, .slice p4499 x4497.length c4500), (1, elemP p4505 (x4510.toNat * 3))] w (by kernel_rfl) ?_
  refine W_nil ?_
  refine N_then ?_
  refine G_seq ?_
  refine G_seq ?_
  refine G_quiet (by kernel_rfl) (by kernel_rfl) M0 ?_
  refine Z_runs [elemP p4505 (x4510.toNat * 3)] [(0, .slice p4499 x4497.length c4500), (1, elemP p4505 (x4510.toNat * 3)), (5, elemP p4505 (x4510.toNat * 3))] (fun w_ => by kernel_rfl) (by kernel_rfl) ?_
  refine Z_val (elemP p4505 (x4510.toNat * 3)) (by kernel_rfl) (fun w_ M_ => (E_nilE (E := deepBalloon.E) _ (x4510.toNat * 3) rfl (by kernel_rfl) (hr4514.rd M_ 1 (by kernel_rfl)) hg4517)) ?_
  refine Z_val (elemP p4505 (x4510.toNat * 3 + 2)) (by kernel_rfl) (fun w_ M_ => (E_fieldE (E := deepBalloon.E) _ _ 2 (x4510.toNat * 3) 2 rfl (by kernel_rfl) (by kernel_rfl) (hr4514.rd M_ 1 (by kernel_rfl)) hg4517)) ?_
  refine Z_val (.slice ((g4516 0).1) y4511.Gave.length ((g4516 0).2)) (by kernel_rfl) (fun w_ M_ => (E_loadE (E := deepBalloon.E) _ _ false 1 x4510 2 (x4510.toNat * 3 + 2) (y4511, g4516) (.slice ((g4516 0).1) y4511.Gave.length ((g4516 0).2)) rfl (by kernel_rfl) (by kernel_rfl) (by kernel_rfl) (hr4514.rd M_ 1 (by kernel_rfl)) hg4517 rfl)) ?_
  refine Z_runs [.int .i64 (y4511.Gave.length : Int), elemP p4505 (x4510.toNat * 3)] [(0, .slice p4499 x4497.length c4500), (1, elemP p4505 (x4510.toNat * 3)), (9, .int .i64 (y4511.Gave.length : Int)), (10, elemP p4505 (x4510.toNat * 3))] (fun w_ => by kernel_rfl) (by kernel_rfl) ?_
  refine Z_val (elemP p4505 (x4510.toNat * 3)) (by kernel_rfl) (fun w_ M_ => (E_nilE (E := deepBalloon.E) _ (x4510.toNat * 3) rfl (by kernel_rfl) (hr4514.rd M_ 1 (by kernel_rfl)) hg4517)) ?_
  refine Z_val (elemP p4505 (x4510.toNat * 3 + 1)) (by kernel_rfl) (fun w_ M_ => (E_fieldE (E := deepBalloon.E) _ _ 1 (x4510.toNat * 3) 1 rfl (by kernel_rfl) (by kernel_rfl) (hr4514.rd M_ 1 (by kernel_rfl)) hg4517)) ?_
  refine Z_val (.int .i64 y4511.Goal) (by kernel_rfl) (fun w_ M_ => (E_loadE (E := deepBalloon.E) _ _ false 1 x4510 1 (x4510.toNat * 3 + 1) (y4511, g4516) (.int .i64 y4511.Goal) rfl (by kernel_rfl) (by kernel_rfl) (by kernel_rfl) (hr4514.rd M_ 1 (by kernel_rfl)) hg4517 rfl)) ?_
  refine Z_runs [.bool (decide ((y4511.Gave.length : Int) ≤ y4511.Goal))] [(0, .slice p4499 x4497.length c4500), (1, elemP p4505 (x4510.toNat * 3)), (14, .bool (decide ((y4511.Gave.length : Int) ≤ y4511.Goal)))] (fun w_ => by kernel_rfl) (by kernel_rfl) ?_
  refine Z_end fun w4523 M4524 => ?_
  refine N_then ?_
  rcases gx_bif hm with ⟨hc4525, hm⟩ | ⟨hc4525, hm⟩
  · refine G_cond_t (b := (decide ((y4511.Gave.length : Int) ≤ y4511.Goal))) hc4525 (by kernel_rfl) ?_
    refine G_seq ?_
    refine G_region ?_
    refine W_run 1 [(4, .bool false)] w4523 (by kernel_rfl) ?_
    refine W_nil ?_
    refine N_then ?_
    refine G_ret ?_
    refine N_then_ret ?_
    obtain rfl := Option.some.inj hm
    refine N_ret [.bool false] (RVs_cons (RV_tmp (by kernel_rfl)) RVs_nil) ?_
    exact ⟨sg4501, sg4507, sg4508, rfl, ho4502, rfl, ho4509, rfl, M4524.pick [0, 1, 2] (by kernel_rfl)⟩
  refine G_cond_f (b := (decide ((y4511.Gave.length : Int) ≤ y4511.Goal))) hc4525 (by kernel_rfl) ?_
  refine G_skip ?_
  refine N_then ?_
  refine G_seq ?_
  obtain ⟨y4529, hy4529, hm⟩ := gx_bind hm
  refine G_sub [(0, .slice p4499 x4497.length c4500), (1, elemP p4505 (x4510.toNat * 3)), (14, .bool (decide ((y4511.Gave.length : Int) ≤ y4511.Goal)))] (by kernel_rfl) ?_
  refine G_dagL 11 [[], [], [1], [2], [3], [4], [5], [], [7], [8], [9]] [[], [], [], [], [], [], [], [], [], [], []] [[], [], [], [], [], [], [], [], [], [], []] [[], [], [], [], [], [], [], [], [], [], []] [[], [], [], [], [], [], [], [], [], [], []] [[], [], [], [], [], [], [], [], [], [], []] (fun _ => []) (fun i => ([fun f v s => v = (.slice p4499 x4497.length c4500 : Value) ∧ s = [], fun f v s => v = (elemP p4505 (x4510.toNat * 3) : Value) ∧ s = [], fun f v s => v = (elemP p4505 (x4510.toNat * 3) : Value) ∧ s = [], fun f v s => v = (elemP p4505 (x4510.toNat * 3 + 2) : Value) ∧ s = [], fun f v s => v = (.slice ((g4516 0).1) y4511.Gave.length ((g4516 0).2) : Value) ∧ s = [], fun f v s => v = (elemP ((g4516 0).1) ((0 : Int).toNat * 1) : Value) ∧ s = [], fun f v s => v = (.int .i64 y4529 : Value) ∧ s = [], fun f v s => v = (elemP p4505 (x4510.toNat * 3) : Value) ∧ s = [], fun f v s => v = (elemP p4505 (x4510.toNat * 3) : Value) ∧ s = [], fun f v s => v = (elemP p4505 (x4510.toNat * 3 + 0) : Value) ∧ s = [], fun f v s => v = (.int .i64 y4511.Guest : Value) ∧ s = []] : List ((Nat → Value) → Value → Seg → Prop)).getD i (fun _ _ _ => False)) (fun j f v => ∃ s, (fun i => ([fun f v s => v = (.slice p4499 x4497.length c4500 : Value) ∧ s = [], fun f v s => v = (elemP p4505 (x4510.toNat * 3) : Value) ∧ s = [], fun f v s => v = (elemP p4505 (x4510.toNat * 3) : Value) ∧ s = [], fun f v s => v = (elemP p4505 (x4510.toNat * 3 + 2) : Value) ∧ s = [], fun f v s => v = (.slice ((g4516 0).1) y4511.Gave.length ((g4516 0).2) : Value) ∧ s = [], fun f v s => v = (elemP ((g4516 0).1) ((0 : Int).toNat * 1) : Value) ∧ s = [], fun f v s => v = (.int .i64 y4529 : Value) ∧ s = [], fun f v s => v = (elemP p4505 (x4510.toNat * 3) : Value) ∧ s = [], fun f v s => v = (elemP p4505 (x4510.toNat * 3) : Value) ∧ s = [], fun f v s => v = (elemP p4505 (x4510.toNat * 3 + 0) : Value) ∧ s = [], fun f v s => v = (.int .i64 y4511.Guest : Value) ∧ s = []] : List ((Nat → Value) → Value → Seg → Prop)).getD i (fun _ _ _ => False)) j f v s) [] [0, 6, 10] [] (fun _ _ _ s h => ⟨s, h⟩) (by kernel_rfl) (by kernel_rfl) (M4524.preNil 11) (by kernel_rfl) (by kernel_rfl) (by kernel_rfl) (by kernel_rfl) (allOb_cons ?_ (allOb_cons ?_ (allOb_cons ?_ (allOb_cons ?_ (allOb_cons ?_ (allOb_cons ?_ (allOb_cons ?_ (allOb_cons ?_ (allOb_cons ?_ (allOb_cons ?_ (allOb_cons ?_ allOb_nil))))))))))) ?_
  · intro g4526 f4527
    intro R w4531 M4532
    refine W_run 1 [(15, .slice p4499 x4497.length c4500)] w4531 (by kernel_rfl) ?_
    exact W_nil (ob_end (.slice p4499 x4497.length c4500) [] rfl (by kernel_rfl) ⟨by kernel_rfl, rfl⟩ M4532)
  · intro g4526 f4527
    intro R w4535 M4536
    refine W_run 1 [(16, elemP p4505 (x4510.toNat * 3))] w4535 (by kernel_rfl) ?_
    exact W_nil (ob_end (elemP p4505 (x4510.toNat * 3)) [] rfl (by kernel_rfl) ⟨by kernel_rfl, rfl⟩ M4536)
  · intro g4526 f4527
    intro v1_ hb1_
    obtain ⟨rfl, _⟩ := hb1_
    intro R w4539 M4540
    refine W_val (elemP p4505 (x4510.toNat * 3)) w4539 (by kernel_rfl) (E_nilE (E := deepBalloon.E) _ (x4510.toNat * 3) rfl (by kernel_rfl) (hr4514.rd M4540 1 (by kernel_rfl)) hg4517) ?_
    exact W_nil (ob_end (elemP p4505 (x4510.toNat * 3)) [] rfl (by kernel_rfl) ⟨by kernel_rfl, rfl⟩ M4540)
  · intro g4526 f4527
    intro v2_ hb2_
    obtain ⟨rfl, _⟩ := hb2_
    intro R w4543 M4544
    refine W_val (elemP p4505 (x4510.toNat * 3 + 2)) w4543 (by kernel_rfl) (E_fieldE (E := deepBalloon.E) _ _ 2 (x4510.toNat * 3) 2 rfl (by kernel_rfl) (by kernel_rfl) (hr4514.rd M4544 1 (by kernel_rfl)) hg4517) ?_
    exact W_nil (ob_end (elemP p4505 (x4510.toNat * 3 + 2)) [] rfl (by kernel_rfl) ⟨by kernel_rfl, rfl⟩ M4544)
  · intro g4526 f4527
    intro v3_ hb3_
    obtain ⟨rfl, _⟩ := hb3_
    intro R w4547 M4548
    refine W_val (.slice ((g4516 0).1) y4511.Gave.length ((g4516 0).2)) w4547 (by kernel_rfl) (E_loadE (E := deepBalloon.E) _ _ false 1 x4510 2 (x4510.toNat * 3 + 2) (y4511, g4516) (.slice ((g4516 0).1) y4511.Gave.length ((g4516 0).2)) rfl (by kernel_rfl) (by kernel_rfl) (by kernel_rfl) (hr4514.rd M4548 1 (by kernel_rfl)) hg4517 rfl) ?_
    exact W_nil (ob_end (.slice ((g4516 0).1) y4511.Gave.length ((g4516 0).2)) [] rfl (by kernel_rfl) ⟨by kernel_rfl, rfl⟩ M4548)
  · intro g4526 f4527
    intro v4_ hb4_
    obtain ⟨rfl, _⟩ := hb4_
    intro R w4551 M4552
    refine W_val (elemP ((g4516 0).1) ((0 : Int).toNat * 1)) w4551 (by kernel_rfl) (E_index (E := Gx.encI) _ _ _ y4511.Gave.length ((g4516 0).2) .i64 0 1 (y := y4529) rfl (by kernel_rfl) (by kernel_rfl) (by kernel_rfl) ((hi4515.rd M4552 2 (by kernel_rfl)).at_ hg4517 0 ⟨Int, Gx.encI, y4511.Gave, (g4516 0).1, (g4516 0).2⟩ (by kernel_rfl)) rfl hy4529) ?_
    exact W_nil (ob_end (elemP ((g4516 0).1) ((0 : Int).toNat * 1)) [] rfl (by kernel_rfl) ⟨by kernel_rfl, rfl⟩ M4552)
  · intro g4526 f4527
    intro v5_ hb5_
    obtain ⟨rfl, _⟩ := hb5_
    intro R w4555 M4556
    refine W_val (.int .i64 y4529) w4555 (by kernel_rfl) (E_loadE (E := Gx.encI) _ _ false 1 0 0 ((0 : Int).toNat * 1) y4529 (.int .i64 y4529) rfl (by kernel_rfl) (by kernel_rfl) (by kernel_rfl) ((hi4515.rd M4556 2 (by kernel_rfl)).at_ hg4517 0 ⟨Int, Gx.encI, y4511.Gave, (g4516 0).1, (g4516 0).2⟩ (by kernel_rfl)) hy4529 rfl) ?_
    exact W_nil (ob_end (.int .i64 y4529) [] rfl (by kernel_rfl) ⟨by kernel_rfl, rfl⟩ M4556)
  · intro g4526 f4527
    intro R w4559 M4560
    refine W_run 1 [(22, elemP p4505 (x4510.toNat * 3))] w4559 (by kernel_rfl) ?_
    exact W_nil (ob_end (elemP p4505 (x4510.toNat * 3)) [] rfl (by kernel_rfl) ⟨by kernel_rfl, rfl⟩ M4560)
  · intro g4526 f4527
    intro v7_ hb7_
    obtain ⟨rfl, _⟩ := hb7_
    intro R w4563 M4564
    refine W_val (elemP p4505 (x4510.toNat * 3)) w4563 (by kernel_rfl) (E_nilE (E := deepBalloon.E) _ (x4510.toNat * 3) rfl (by kernel_rfl) (hr4514.rd M4564 1 (by kernel_rfl)) hg4517) ?_
    exact W_nil (ob_end (elemP p4505 (x4510.toNat * 3)) [] rfl (by kernel_rfl) ⟨by kernel_rfl, rfl⟩ M4564)
  · intro g4526 f4527
    intro v8_ hb8_
    obtain ⟨rfl, _⟩ := hb8_
    intro R w4567 M4568
    refine W_val (elemP p4505 (x4510.toNat * 3 + 0)) w4567 (by kernel_rfl) (E_fieldE (E := deepBalloon.E) _ _ 0 (x4510.toNat * 3) 0 rfl (by kernel_rfl) (by kernel_rfl) (hr4514.rd M4568 1 (by kernel_rfl)) hg4517) ?_
    exact W_nil (ob_end (elemP p4505 (x4510.toNat * 3 + 0)) [] rfl (by kernel_rfl) ⟨by kernel_rfl, rfl⟩ M4568)
  · intro g4526 f4527
    intro v9_ hb9_
    obtain ⟨rfl, _⟩ := hb9_
    intro R w4571 M4572
    refine W_val (.int .i64 y4511.Guest) w4571 (by kernel_rfl) (E_loadE (E := deepBalloon.E) _ _ false 1 x4510 0 (x4510.toNat * 3 + 0) (y4511, g4516) (.int .i64 y4511.Guest) rfl (by kernel_rfl) (by kernel_rfl) (by kernel_rfl) (hr4514.rd M4572 1 (by kernel_rfl)) hg4517 rfl) ?_
    exact W_nil (ob_end (.int .i64 y4511.Guest) [] rfl (by kernel_rfl) ⟨by kernel_rfl, rfl⟩ M4572)
  intro g4526 f4527
  intro v0_ hb0_
  obtain ⟨rfl, _⟩ := hb0_
  intro v6_ hb6_
  obtain ⟨rfl, _⟩ := hb6_
  intro v10_ hb10_
  obtain ⟨rfl, _⟩ := hb10_
  intro w4575 M4576
  have M4577 : Mem (idsOf [sg4501, sg4507, sg4508]) w w4575 [sg4501, sg4507, sg4508] := M4576
  obtain ⟨y4578, hy4578, hm⟩ := gx_bind hm
  refine W_val (elemP p4499 (y4529.toNat * 1)) w4575 (by kernel_rfl) (E_index (E := Gx.encI) _ _ _ x4497.length c4500 .i64 y4529 1 (y := y4578) rfl (by kernel_rfl) (by kernel_rfl) (by kernel_rfl) (ho4502.rd M4577 0 (by kernel_rfl)) rfl hy4578) ?_
  refine W_storeE (E := Gx.encI) _ _ _ false 1 y4529.toNat 0 (y4529.toNat * 1) y4578 y4511.Guest (.int .i64 y4511.Guest) 0 M4577 ho4502 (by kernel_rfl) (by kernel_rfl) rfl (by kernel_rfl) (by kernel_rfl) (by kernel_rfl) (by kernel_rfl) (by kernel_rfl) (by kernel_rfl) (by kernel_rfl) (gxIdx_spec hy4578).2 rfl ?_
  intro w4579 sg4581 ho4582 M4580
  refine W_conv 0 (.slice p4499 x4497.length c4500) (.slice p4499 (x4497.set y4529.toNat y4511.Guest).length c4500) (by kernel_rfl) (by rw [@List.length_set _ x4497 y4529.toNat y4511.Guest]) ?_
  refine W_conv 15 (.slice p4499 x4497.length c4500) (.slice p4499 (x4497.set y4529.toNat y4511.Guest).length c4500) (by kernel_rfl) (by rw [@List.length_set _ x4497 y4529.toNat y4511.Guest]) ?_
  refine W_nil ?_
  refine N_then ?_
  refine G_seq ?_
  refine G_region ?_
  refine W_run 2 [(27, elemP p4505 (x4510.toNat * 3)), (28, elemP p4505 (x4510.toNat * 3))] w4579 (by kernel_rfl) ?_
  refine W_val (elemP p4505 (x4510.toNat * 3)) w4579 (by kernel_rfl) (E_nilE (E := deepBalloon.E) _ (x4510.toNat * 3) rfl (by kernel_rfl) (hr4514.rd M4580 1 (by kernel_rfl)) hg4517) ?_
  refine W_val (elemP p4505 (x4510.toNat * 3 + 2)) w4579 (by kernel_rfl) (E_fieldE (E := deepBalloon.E) _ _ 2 (x4510.toNat * 3) 2 rfl (by kernel_rfl) (by kernel_rfl) (hr4514.rd M4580 1 (by kernel_rfl)) hg4517) ?_
  refine W_val (.slice ((g4516 0).1) y4511.Gave.length ((g4516 0).2)) w4579 (by kernel_rfl) (E_loadE (E := deepBalloon.E) _ _ false 1 x4510 2 (x4510.toNat * 3 + 2) (y4511, g4516) (.slice ((g4516 0).1) y4511.Gave.length ((g4516 0).2)) rfl (by kernel_rfl) (by kernel_rfl) (by kernel_rfl) (hr4514.rd M4580 1 (by kernel_rfl)) hg4517 rfl) ?_
  obtain ⟨ys4584, hys4584, hm⟩ := gx_bind hm
  refine W_val (.slice (subP ((g4516 0).1) (1 : Int).toNat ((g4516 0).2) 1) ys4584.length (((g4516 0).2) - (1 : Int).toNat)) w4579 (by kernel_rfl) (E_slice (E := Gx.encI) _ _ _ _ y4511.Gave.length 1 (y4511.Gave.length : Int) rfl (by kernel_rfl) (Or.inr ⟨_, rfl, by kernel_rfl⟩) (Or.inl ⟨rfl, rfl⟩) (by kernel_rfl) ((hi4515.rd M4580 2 (by kernel_rfl)).at_ hg4517 0 ⟨Int, Gx.encI, y4511.Gave, (g4516 0).1, (g4516 0).2⟩ (by kernel_rfl)) rfl hys4584) ?_
  refine W_val (elemP p4505 (x4510.toNat * 3)) w4579 (by kernel_rfl) (E_nilE (E := deepBalloon.E) _ (x4510.toNat * 3) rfl (by kernel_rfl) (hr4514.rd M4580 1 (by kernel_rfl)) hg4517) ?_
  refine W_val (elemP p4505 (x4510.toNat * 3 + 2)) w4579 (by kernel_rfl) (E_fieldE (E := deepBalloon.E) _ _ 2 (x4510.toNat * 3) 2 rfl (by kernel_rfl) (by kernel_rfl) (hr4514.rd M4580 1 (by kernel_rfl)) hg4517) ?_
  obtain ⟨sa4586, sb4587, sc4588, hs4589, hb4590, hp4591⟩ := hi4515.lens (gxIdx_spec hg4517).2
  have M4592 := M4580.cut 2 (sa := sa4586) (sb := sb4587) (sc := sc4588) hs4589 (by kernel_rfl)
  obtain ⟨u4593, r4594, hu4595, ho4596, hr4597⟩ := hb4590
  have M4598 := M4592.cut 3 (sa := []) (sb := u4593) (sc := r4594) hu4595 (by kernel_rfl)
  refine W_storeE (E := deepBalloon.E) _ _ _ false 1 x4510.toNat 2 (x4510.toNat * 3 + 2) (y4511, g4516) ((⟨y4511.Guest, y4511.Goal, ys4584⟩ : Balloon), (plOf [((subP ((g4516 0).1) (1 : Int).toNat ((g4516 0).2) 1), (((g4516 0).2) - (1 : Int).toNat))])) (.slice (subP ((g4516 0).1) (1 : Int).toNat ((g4516 0).2) 1) ys4584.length (((g4516 0).2) - (1 : Int).toNat)) 1 M4598 hr4514 (by kernel_rfl) (by kernel_rfl) rfl (by kernel_rfl) (by kernel_rfl) (by kernel_rfl) (by kernel_rfl) (by kernel_rfl) (by kernel_rfl) (by kernel_rfl) (gxIdx_spec hg4517).2 rfl ?_
  intro w4601 sg4603 ho4604 M4602
  have M4605 : Mem (idsOf [sg4501, sg4507, sg4508]) w w4601 [sg4581, sg4603, [], sa4586, u4593, sc4588] := M4602.pick [0, 1, 3, 2, 5, 4] (by kernel_rfl)
  have M4606 : Mem (idsOf [sg4501, sg4507, sg4508]) w w4601 [sg4581, sg4603, [], (sa4586 ++ ((u4593 ++ []) ++ sc4588))] := M4605.regroup (by simp)
  have ho4607 : ownD deepBalloon (x4503.set x4510.toNat (⟨y4511.Guest, y4511.Goal, ys4584⟩ : Balloon)) p4505 c4506 sg4603 (sa4586 ++ ((u4593 ++ []) ++ sc4588)) := ⟨_, set_fst hz4513 x4510.toNat ((⟨y4511.Guest, y4511.Goal, ys4584⟩ : Balloon), (plOf [((subP ((g4516 0).1) (1 : Int).toNat ((g4516 0).2) 1), (((g4516 0).2) - (1 : Int).toNat))])), ho4604, hp4591 ((⟨y4511.Guest, y4511.Goal, ys4584⟩ : Balloon), (plOf [((subP ((g4516 0).1) (1 : Int).toNat ((g4516 0).2) 1), (((g4516 0).2) - (1 : Int).toNat))])) _ (ownI_cons (i := ⟨Int, Gx.encI, _, _, _⟩) (ho4596.partM hys4584) ownI_nil)⟩
  have hput4608 := gxIdx_put (⟨y4511.Guest, y4511.Goal, ys4584⟩ : Balloon) (gxIdx_down hz4513 hg4517)
  refine W_nil ?_
  refine N_then ?_
  refine G_seq ?_
  refine G_region ?_
  refine W_run 1 [(4, .bool true)] w4601 (by kernel_rfl) ?_
  refine W_nil ?_
  refine N_then ?_
  refine G_ret ?_
  obtain rfl := Option.some.inj hm
  refine N_ret [.bool true] (RVs_cons (RV_tmp (by kernel_rfl)) RVs_nil) ?_
  exact ⟨sg4581, sg4603, (sa4586 ++ ((u4593 ++ []) ++ sc4588)), rfl, ho4582, (List.length_set.trans rfl), ho4607, (List.length_set.trans rfl), M4606.pick [0, 1, 3] (by kernel_rfl)⟩
theorem c_i_SettleGuest (w : World) (x2641 : List Int) (p2643 : Option Addr) (c2644 : Nat) (h2645 : rdS Gx.encI w x2641 p2643 c2644) (x2646 : List Balloon) (p2648 : Option Addr) (c2649 : Nat) (h2650 : rdD deepBalloon w x2646 p2648 c2649) (x2651 : Int) {r : (List Int) × (List Balloon) × Int × Bool} (hm : M.i_SettleGuest x2641 x2646 x2651 = some r) :
    Calls Try.prog 37 #[.slice p2643 x2641.length c2644, .slice p2648 x2646.length c2649, .int .i64 x2651] w fun e w' => ∃ (p2653 : Option Addr) (c2654 : Nat) (sg2655 : Seg), ∃ (p2657 : Option Addr) (c2658 : Nat) (sg2659 : Seg) (sg2660 : Seg), e = .returned (.tuple #[.slice p2653 r.1.length c2654, .slice p2657 r.2.1.length c2658, .int .i64 r.2.2.1, .bool r.2.2.2]) ∧ ownS Gx.encI r.1 p2653 c2654 sg2655 ∧ ownD deepBalloon r.2.1 p2657 c2658 sg2659 sg2660 ∧ Mem [] w w' [sg2655, sg2659, sg2660] := by
  unfold M.i_SettleGuest at hm
  refine C_enter Try.func37 rfl (by kernel_rfl) ?_
  have M0 := Mem.refl [] w
  refine G_seq ?_
  refine G_region ?_
  refine W_run 4 [(0, .slice p2643 x2641.length c2644), (1, .slice p2648 x2646.length c2649), (2, .int .i64 x2651)] w (by kernel_rfl) ?_
  refine W_nil ?_
  refine N_then ?_
  refine G_seq ?_
  refine G_region ?_
  refine W_run 3 [(0, .slice p2643 x2641.length c2644), (1, .slice p2648 x2646.length c2649), (16, .slice p2643 x2641.length c2644), (17, .slice p2648 x2646.length c2649), (18, .int .i64 x2651)] w (by kernel_rfl) ?_
  obtain ⟨r3741, hr3741, hm⟩ := gx_bind hm
  refine W_call 59 #[.slice p2643 x2641.length c2644, .slice p2648 x2646.length c2649, .int .i64 x2651] (by kernel_rfl) (by kernel_rfl) ?_
  refine (c_i_balloonOf w x2641 p2643 c2644 (h2645.mem0 M0) x2646 p2648 c2649 (h2650.mem0 M0) x2651 hr3741).mono ?_
  rintro e_ w3742 ⟨rfl, K3743⟩
  have M3744 := M0.call0 K3743
  refine ⟨_, rfl, ?_⟩
  refine W_run 5 [(0, .slice p2643 x2641.length c2644), (1, .slice p2648 x2646.length c2649), (10, .int .i64 r3741.1), (11, .bool r3741.2)] w3742 (by kernel_rfl) ?_
  refine W_nil ?_
  refine N_then ?_
  refine G_seq ?_
  refine G_seq ?_
  refine G_region ?_
  refine W_run 2 [(0, .slice p2643 x2641.length c2644), (1, .slice p2648 x2646.length c2649), (10, .int .i64 r3741.1), (23, .bool (!r3741.2))] w3742 (by kernel_rfl) ?_
  refine W_nil ?_
  refine N_then ?_
  rcases gx_bif hm with ⟨hc3745, hm⟩ | ⟨hc3745, hm⟩
  · refine G_cond_t (b := (!r3741.2)) hc3745 (by kernel_rfl) ?_
    refine G_seq ?_
    refine G_region ?_
    refine W_run 4 [(6, .slice none 0 0), (7, .slice none 0 0), (8, .int .i64 0), (9, .bool false)] w3742 (by kernel_rfl) ?_
    refine W_nil ?_
    refine N_then ?_
    refine G_ret ?_
    refine N_then_ret ?_
    obtain rfl := Option.some.inj hm
    refine N_ret [.slice none 0 0, .slice none 0 0, .int .i64 0, .bool false] (RVs_cons (RV_tmp (by kernel_rfl)) (RVs_cons (RV_tmp (by kernel_rfl)) (RVs_cons (RV_tmp (by kernel_rfl)) (RVs_cons (RV_tmp (by kernel_rfl)) RVs_nil)))) ?_
    exact ⟨none, 0, [], none, 0, [], [], rfl, ownS_nil, ownD_nil, M3744.pick [100000, 100001, 100002] (by kernel_rfl)⟩
  refine G_cond_f (b := (!r3741.2)) hc3745 (by kernel_rfl) ?_
  refine G_skip ?_
  refine N_then ?_
  refine G_seq ?_
  refine G_region ?_
  refine W_run 1 [(1, .slice p2648 x2646.length c2649), (10, .int .i64 r3741.1), (24, .slice p2643 x2641.length c2644)] w3742 (by kernel_rfl) ?_
  obtain ⟨r3773, hr3773, hm⟩ := gx_bind hm
  refine W_call 62 #[.slice p2643 x2641.length c2644] (by kernel_rfl) (by kernel_rfl) ?_
  refine (c_i_copyInts w3742 x2641 p2643 c2644 (h2645.mem0 M3744) hr3773).mono ?_
  rintro e_ w3779 ⟨p3775, c3776, sg3777, rfl, ho3778, K3780⟩
  have M3781 := M3744.call K3780
  refine ⟨_, rfl, ?_⟩
  refine W_run 1 [(10, .int .i64 r3741.1), (25, .slice p3775 r3773.length c3776), (26, .slice p2648 x2646.length c2649)] w3779 (by kernel_rfl) ?_
  obtain ⟨r3991, hr3991, hm⟩ := gx_bind hm
  refine W_call 60 #[.slice p2648 x2646.length c2649] (by kernel_rfl) (by kernel_rfl) ?_
  refine (c_i_newBalloons w3779 x2646 p2648 c2649 (h2650.mem0 M3781) hr3991).mono ?_
  rintro e_ w3998 ⟨p3993, c3994, sg3995, sg3996, rfl, ho3997, K3999⟩
  have M4000 := M3781.call K3999
  refine ⟨_, rfl, ?_⟩
  refine W_run 3 [(10, .int .i64 r3741.1), (12, .slice p3775 r3773.length c3776), (13, .slice p3993 r3991.length c3994), (14, .int .i64 0)] w3998 (by kernel_rfl) ?_
  refine W_nil ?_
  refine N_then ?_
  refine G_seq ?_
  obtain ⟨out4769, hw4770, hmo4771⟩ := gx_bind hm
  refine G_meet (fun a w' => ∃ (sg4778 : Seg), ∃ (sg4780 : Seg), ∃ (sg4781 : Seg), ownS Gx.encI out4769.2.1 p3775 c3776 sg4778 ∧ ownD deepBalloon out4769.2.2 p3993 c3994 sg4780 sg4781 ∧ Mem [] w w' [sg4778, sg4780, sg4781] ∧ Sat Try.f37.ntmps [(12, .slice p3775 out4769.2.1.length c3776), (13, .slice p3993 out4769.2.2.length c3994), (14, .int .i64 out4769.1)] a) ?_ ?_
  · refine G_block ?_
    refine G_while (σ := Int × List Int × List Balloon) (ρ := Int × List Int × List Balloon) (fun s4762 a w' => ∃ (sg4772 : Seg), ∃ (sg4774 : Seg), ∃ (sg4775 : Seg), ownS Gx.encI s4762.2.1 p3775 c3776 sg4772 ∧ ownD deepBalloon s4762.2.2 p3993 c3994 sg4774 sg4775 ∧ Mem [] w w' [sg4772, sg4774, sg4775] ∧ Sat Try.f37.ntmps [(10, .int .i64 r3741.1), (12, .slice p3775 s4762.2.1.length c3776), (13, .slice p3993 s4762.2.2.length c3994), (14, .int .i64 s4762.1)] a) hw4770 (fun a ha => ⟨sg3777, sg3995, sg3996, ho3778, ho3997, M4000.pick [0, 1, 2] (by kernel_rfl), ha.sub (by kernel_rfl)⟩) ?_
    clear hm
    intro s4762 x4763 hm hout4764 a4765 w4766 ⟨sg4772, sg4774, sg4775, ho4773, ho4776, M4767, hS4768⟩
    refine G_use hS4768 ?_
    refine G_seq ?_
    refine G_seq ?_
    obtain ⟨o4820, ho4821, hm4822⟩ := gx_bind hm
    refine G_meet (fun a w' => ∃ (sg4823 : Seg), ∃ (sg4825 : Seg), ∃ (sg4826 : Seg), ownS Gx.encI o4820.2.1 p3775 c3776 sg4823 ∧ ownD deepBalloon o4820.2.2 p3993 c3994 sg4825 sg4826 ∧ Mem [] w w' [sg4823, sg4825, sg4826] ∧ Sat Try.f37.ntmps [(10, .int .i64 r3741.1), (12, .slice p3775 o4820.2.1.length c3776), (13, .slice p3993 o4820.2.2.length c3994), (14, .int .i64 s4762.1), (39, .bool o4820.1)] a) ?_ ?_
    · have hm := ho4821
      refine G_region ?_
      refine W_run 3 [(10, .int .i64 r3741.1), (12, .slice p3775 s4762.2.1.length c3776), (13, .slice p3993 s4762.2.2.length c3994), (14, .int .i64 s4762.1), (28, .slice p3775 s4762.2.1.length c3776), (29, .slice p3993 s4762.2.2.length c3994), (30, .int .i64 r3741.1)] w4766 (by kernel_rfl) ?_
      obtain ⟨y4828, hy4828, hm⟩ := gx_bind hm
      obtain ⟨zs4829, hz4830, hr4831, hi4832⟩ := id ho4776
      obtain ⟨g4833, hg4834⟩ := gxIdx_fst hz4830 hy4828
      refine W_val (elemP p3993 (r3741.1.toNat * 3)) w4766 (by kernel_rfl) (E_index (E := deepBalloon.E) _ _ _ s4762.2.2.length c3994 .i64 r3741.1 3 (y := (y4828, g4833)) rfl (by kernel_rfl) (by kernel_rfl) (by kernel_rfl) (hr4831.rd M4767 1 (by kernel_rfl)) (len_fst hz4830) hg4834) ?_
      obtain ⟨r4835, hr4835, hm⟩ := gx_bind hm
      refine W_call 70 #[.slice p3775 s4762.2.1.length c3776, elemP p3993 (r3741.1.toNat * 3)] (by kernel_rfl) (by kernel_rfl) ?_
      refine (c_i_inflate__e1 w4766 s4762.2.1 p3775 c3776 sg4772 ho4773 s4762.2.2 p3993 c3994 sg4774 sg4775 ho4776 r3741.1 (M4767.hasPick [0, 1, 2]) (M4767.nodupPick [0, 1, 2] (by kernel_rfl)) hr4835).mono ?_
      rintro e_ w4843 ⟨sg4836, sg4839, sg4840, rfl, ho4837, hl4838, ho4841, hl4842, K4844⟩
      have M4845 := M4767.callF' [0, 1, 2] [] (by kernel_rfl) K4844
      refine ⟨_, rfl, ?_⟩
      refine W_conv 12 (.slice p3775 s4762.2.1.length c3776) (.slice p3775 r4835.2.1.length c3776) (by kernel_rfl) (by first | rw [hl4838, hl4842] | rw [hl4838] | rw [hl4842]) ?_
      refine W_conv 13 (.slice p3993 s4762.2.2.length c3994) (.slice p3993 r4835.2.2.length c3994) (by kernel_rfl) (by first | rw [hl4838, hl4842] | rw [hl4838] | rw [hl4842]) ?_
      refine W_conv 28 (.slice p3775 s4762.2.1.length c3776) (.slice p3775 r4835.2.1.length c3776) (by kernel_rfl) (by first | rw [hl4838, hl4842] | rw [hl4838] | rw [hl4842]) ?_
      refine W_conv 29 (.slice p3993 s4762.2.2.length c3994) (.slice p3993 r4835.2.2.length c3994) (by kernel_rfl) (by first | rw [hl4838, hl4842] | rw [hl4838] | rw [hl4842]) ?_
      refine W_run 1 [(10, .int .i64 r3741.1), (12, .slice p3775 r4835.2.1.length c3776), (13, .slice p3993 r4835.2.2.length c3994), (14, .int .i64 s4762.1), (33, .bool r4835.1)] w4843 (by kernel_rfl) ?_
      rcases gx_bif hm with ⟨hc4846, hm⟩ | ⟨hc4846, hm⟩
      · refine W_known 33 true (by kernel_rfl) hc4846 ?_
        refine W_run 6 [(10, .int .i64 r3741.1), (12, .slice p3775 r4835.2.1.length c3776), (13, .slice p3993 r4835.2.2.length c3994), (14, .int .i64 s4762.1), (39, .bool true)] w4843 (by kernel_rfl) ?_
        refine W_nil ?_
        obtain rfl := Option.some.inj hm
        exact N_meet fun a ha => ⟨sg4836, sg4839, sg4840, ho4837, ho4841, M4845.pick [0, 1, 2] (by kernel_rfl), ha.sub (by kernel_rfl)⟩
      refine W_known 33 false (by kernel_rfl) hc4846 ?_
      refine W_run 3 [(10, .int .i64 r3741.1), (12, .slice p3775 r4835.2.1.length c3776), (13, .slice p3993 r4835.2.2.length c3994), (14, .int .i64 s4762.1), (33, .bool false), (34, .slice p3775 r4835.2.1.length c3776), (35, .slice p3993 r4835.2.2.length c3994), (36, .int .i64 r3741.1)] w4843 (by kernel_rfl) ?_
      obtain ⟨y4847, hy4847, hm⟩ := gx_bind hm
      obtain ⟨zs4848, hz4849, hr4850, hi4851⟩ := id ho4841
      obtain ⟨g4852, hg4853⟩ := gxIdx_fst hz4849 hy4847
      refine W_val (elemP p3993 (r3741.1.toNat * 3)) w4843 (by kernel_rfl) (E_index (E := deepBalloon.E) _ _ _ r4835.2.2.length c3994 .i64 r3741.1 3 (y := (y4847, g4852)) rfl (by kernel_rfl) (by kernel_rfl) (by kernel_rfl) (hr4850.rd M4845 1 (by kernel_rfl)) (len_fst hz4849) hg4853) ?_
      obtain ⟨r4854, hr4854, hm⟩ := gx_bind hm
      refine W_call 69 #[.slice p3775 r4835.2.1.length c3776, elemP p3993 (r3741.1.toNat * 3)] (by kernel_rfl) (by kernel_rfl) ?_
      refine (c_i_deflate__e1 w4843 r4835.2.1 p3775 c3776 sg4836 ho4837 r4835.2.2 p3993 c3994 sg4839 sg4840 ho4841 r3741.1 (M4845.hasPick [0, 1, 2]) (M4845.nodupPick [0, 1, 2] (by kernel_rfl)) hr4854).mono ?_
      rintro e_ w4862 ⟨sg4855, sg4858, sg4859, rfl, ho4856, hl4857, ho4860, hl4861, K4863⟩
      have M4864 := M4845.callF' [0, 1, 2] [] (by kernel_rfl) K4863
      refine ⟨_, rfl, ?_⟩
      refine W_conv 12 (.slice p3775 r4835.2.1.length c3776) (.slice p3775 r4854.2.1.length c3776) (by kernel_rfl) (by first | rw [hl4857, hl4861] | rw [hl4857] | rw [hl4861]) ?_
      refine W_conv 13 (.slice p3993 r4835.2.2.length c3994) (.slice p3993 r4854.2.2.length c3994) (by kernel_rfl) (by first | rw [hl4857, hl4861] | rw [hl4857] | rw [hl4861]) ?_
      refine W_conv 34 (.slice p3775 r4835.2.1.length c3776) (.slice p3775 r4854.2.1.length c3776) (by kernel_rfl) (by first | rw [hl4857, hl4861] | rw [hl4857] | rw [hl4861]) ?_
      refine W_conv 35 (.slice p3993 r4835.2.2.length c3994) (.slice p3993 r4854.2.2.length c3994) (by kernel_rfl) (by first | rw [hl4857, hl4861] | rw [hl4857] | rw [hl4861]) ?_
      refine W_run 1 [(10, .int .i64 r3741.1), (12, .slice p3775 r4854.2.1.length c3776), (13, .slice p3993 r4854.2.2.length c3994), (14, .int .i64 s4762.1), (39, .bool r4854.1)] w4862 (by kernel_rfl) ?_
      refine W_nil ?_
      obtain rfl := Option.some.inj hm
      exact N_meet fun a ha => ⟨sg4855, sg4858, sg4859, ho4856, ho4860, M4864.pick [0, 1, 2] (by kernel_rfl), ha.sub (by kernel_rfl)⟩
    intro a4867 w4865 ⟨sg4823, sg4825, sg4826, ho4824, ho4827, M4866, hS4868⟩
    refine N_use hS4868 ?_
    have hm := hm4822
    refine N_then ?_
    rcases gx_bif hm with ⟨hc4869, hm⟩ | ⟨hc4869, hm⟩
    · refine G_cond_t (b := o4820.1) hc4869 (by kernel_rfl) ?_
      refine G_skip ?_
      refine N_then ?_
      refine G_block ?_
      refine G_region ?_
      refine W_run 3 [(10, .int .i64 r3741.1), (12, .slice p3775 o4820.2.1.length c3776), (13, .slice p3993 o4820.2.2.length c3994), (14, .int .i64 (w64 (s4762.1 + 1)))] w4865 (by kernel_rfl) ?_
      refine W_nil ?_
      refine N_block ?_
      obtain rfl := Option.some.inj hm
      exact N_loop fun a ha => ⟨_, rfl, sg4823, sg4825, sg4826, ho4824, ho4827, M4866.pick [0, 1, 2] (by kernel_rfl), ha.sub (by kernel_rfl)⟩
    refine G_cond_f (b := o4820.1) hc4869 (by kernel_rfl) ?_
    refine G_exit ?_
    refine N_then_exit ?_
    refine N_then_exit ?_
    refine N_block_eq ?_
    obtain rfl := Option.some.inj hm
    obtain rfl := hout4764 _ rfl
    exact N_meet fun a ha => ⟨sg4823, sg4825, sg4826, ho4824, ho4827, M4866.pick [0, 1, 2] (by kernel_rfl), ha.sub (by kernel_rfl)⟩
  intro a4870 w4871 ⟨sg4778, sg4780, sg4781, ho4779, ho4782, M4872, hS4873⟩
  refine N_use hS4873 ?_
  have hm := hmo4771
  refine N_then ?_
  refine G_seq ?_
  refine G_region ?_
  refine W_run 7 [(6, .slice p3775 out4769.2.1.length c3776), (7, .slice p3993 out4769.2.2.length c3994), (8, .int .i64 out4769.1), (9, .bool true)] w4871 (by kernel_rfl) ?_
  refine W_nil ?_
  refine N_then ?_
  refine G_ret ?_
  obtain rfl := Option.some.inj hm
  refine N_ret [.slice p3775 out4769.2.1.length c3776, .slice p3993 out4769.2.2.length c3994, .int .i64 out4769.1, .bool true] (RVs_cons (RV_tmp (by kernel_rfl)) (RVs_cons (RV_tmp (by kernel_rfl)) (RVs_cons (RV_tmp (by kernel_rfl)) (RVs_cons (RV_tmp (by kernel_rfl)) RVs_nil)))) ?_
  exact ⟨p3775, c3776, sg4778, p3993, c3994, sg4780, sg4781, rfl, ho4779, ho4782, M4872.pick [0, 1, 2] (by kernel_rfl)⟩
theorem c_l_eqIntS (w : World) (x4889 : List Int) (p4891 : Option Addr) (c4892 : Nat) (h4893 : rdS Gx.encI w x4889 p4891 c4892) (x4894 : List Int) (p4896 : Option Addr) (c4897 : Nat) (h4898 : rdS Gx.encI w x4894 p4896 c4897) {r : Bool} (hm : M.l_eqIntS x4889 x4894 = some r) :
    Calls Try.prog 18 #[.slice p4891 x4889.length c4892, .slice p4896 x4894.length c4897] w fun e w' => e = .returned (.bool r) ∧ Mem [] w w' [] := by
  unfold M.l_eqIntS at hm
  refine C_enter Try.func18 rfl (by kernel_rfl) ?_
  have M0 := Mem.refl [] w
  refine G_seq ?_
  refine G_region ?_
  refine W_run 1 [(0, .slice p4891 x4889.length c4892), (1, .slice p4896 x4894.length c4897)] w (by kernel_rfl) ?_
  refine W_nil ?_
  refine N_then ?_
  refine G_seq ?_
  refine G_seq ?_
  refine G_region ?_
  refine W_run 5 [(0, .slice p4891 x4889.length c4892), (1, .slice p4896 x4894.length c4897), (10, .bool ((x4889.length : Int) != (x4894.length : Int)))] w (by kernel_rfl) ?_
  refine W_nil ?_
  refine N_then ?_
  rcases gx_bif hm with ⟨hc4899, hm⟩ | ⟨hc4899, hm⟩
  · refine G_cond_t (b := ((x4889.length : Int) != (x4894.length : Int))) hc4899 (by kernel_rfl) ?_
    refine G_seq ?_
    refine G_region ?_
    refine W_run 1 [(4, .bool false)] w (by kernel_rfl) ?_
    refine W_nil ?_
    refine N_then ?_
    refine G_ret ?_
    refine N_then_ret ?_
    obtain rfl := Option.some.inj hm
    refine N_ret [.bool false] (RVs_cons (RV_tmp (by kernel_rfl)) RVs_nil) ?_
    exact ⟨rfl, M0.pick [] (by kernel_rfl)⟩
  refine G_cond_f (b := ((x4889.length : Int) != (x4894.length : Int))) hc4899 (by kernel_rfl) ?_
  refine G_skip ?_
  refine N_then ?_
  refine G_seq ?_
  refine G_seq ?_
  refine G_region ?_
  refine W_run 1 [(0, .slice p4891 x4889.length c4892), (1, .slice p4896 x4894.length c4897), (5, .int .i64 0)] w (by kernel_rfl) ?_
  refine W_nil ?_
  refine N_then ?_
  obtain ⟨out4919, hw4920, hmo4921⟩ := gx_bind hm
  refine G_meet (fun a w' => ∃ (o4922 : Unit), out4919 = .inl o4922 ∧ Mem [] w w' [] ∧ Sat Try.f18.ntmps [] a) ?_ ?_
  · refine G_block ?_
    refine G_while (σ := Int) (ρ := (Unit) ⊕ (Bool)) (fun s4912 a w' => Mem [] w w' [] ∧ Sat Try.f18.ntmps [(0, .slice p4891 x4889.length c4892), (1, .slice p4896 x4894.length c4897), (5, .int .i64 s4912)] a) hw4920 (fun a ha => ⟨M0.pick [] (by kernel_rfl), ha.sub (by kernel_rfl)⟩) ?_
    clear hm
    intro s4912 x4913 hm hout4914 a4915 w4916 ⟨M4917, hS4918⟩
    refine G_use hS4918 ?_
    refine G_seq ?_
    refine G_seq ?_
    refine G_region ?_
    refine W_run 4 [(0, .slice p4891 x4889.length c4892), (1, .slice p4896 x4894.length c4897), (5, .int .i64 s4912), (14, .bool (decide (s4912 < (x4889.length : Int))))] w4916 (by kernel_rfl) ?_
    refine W_nil ?_
    refine N_then ?_
    rcases gx_bif hm with ⟨hc4923, hm⟩ | ⟨hc4923, hm⟩
    · refine G_cond_t (b := (decide (s4912 < (x4889.length : Int)))) hc4923 (by kernel_rfl) ?_
      refine G_skip ?_
      refine N_then ?_
      refine G_seq ?_
      refine G_block ?_
      refine G_seq ?_
      refine G_quiet (by kernel_rfl) (by kernel_rfl) M4917 ?_
      refine Z_runs [.slice p4891 x4889.length c4892, .int .i64 s4912] [(0, .slice p4891 x4889.length c4892), (1, .slice p4896 x4894.length c4897), (5, .int .i64 s4912), (17, .slice p4891 x4889.length c4892), (18, .int .i64 s4912)] (fun w_ => by kernel_rfl) (by kernel_rfl) ?_
      obtain ⟨y4924, hy4924, hm⟩ := gx_bind hm
      refine Z_val (elemP p4891 (s4912.toNat * 1)) (by kernel_rfl) (fun w_ M_ => (E_index (E := Gx.encI) _ _ _ x4889.length c4892 .i64 s4912 1 (y := y4924) rfl (by kernel_rfl) (by kernel_rfl) (by kernel_rfl) (h4893.mem0 M_) rfl hy4924)) ?_
      refine Z_val (.int .i64 y4924) (by kernel_rfl) (fun w_ M_ => (E_loadE (E := Gx.encI) _ _ false 1 s4912 0 (s4912.toNat * 1) y4924 (.int .i64 y4924) rfl (by kernel_rfl) (by kernel_rfl) (by kernel_rfl) (h4893.mem0 M_) hy4924 rfl)) ?_
      refine Z_runs [.slice p4896 x4894.length c4897, .int .i64 s4912] [(0, .slice p4891 x4889.length c4892), (1, .slice p4896 x4894.length c4897), (5, .int .i64 s4912), (20, .int .i64 y4924), (21, .slice p4896 x4894.length c4897), (22, .int .i64 s4912)] (fun w_ => by kernel_rfl) (by kernel_rfl) ?_
      obtain ⟨y4925, hy4925, hm⟩ := gx_bind hm
      refine Z_val (elemP p4896 (s4912.toNat * 1)) (by kernel_rfl) (fun w_ M_ => (E_index (E := Gx.encI) _ _ _ x4894.length c4897 .i64 s4912 1 (y := y4925) rfl (by kernel_rfl) (by kernel_rfl) (by kernel_rfl) (h4898.mem0 M_) rfl hy4925)) ?_
      refine Z_val (.int .i64 y4925) (by kernel_rfl) (fun w_ M_ => (E_loadE (E := Gx.encI) _ _ false 1 s4912 0 (s4912.toNat * 1) y4925 (.int .i64 y4925) rfl (by kernel_rfl) (by kernel_rfl) (by kernel_rfl) (h4898.mem0 M_) hy4925 rfl)) ?_
      refine Z_runs [.bool (y4924 != y4925)] [(0, .slice p4891 x4889.length c4892), (1, .slice p4896 x4894.length c4897), (5, .int .i64 s4912), (25, .bool (y4924 != y4925))] (fun w_ => by kernel_rfl) (by kernel_rfl) ?_
      refine Z_end fun w4926 M4927 => ?_
      refine N_then ?_
      rcases gx_bif hm with ⟨hc4928, hm⟩ | ⟨hc4928, hm⟩
      · refine G_cond_t (b := (y4924 != y4925)) hc4928 (by kernel_rfl) ?_
        refine G_seq ?_
        refine G_region ?_
        refine W_run 1 [(4, .bool false)] w4926 (by kernel_rfl) ?_
        refine W_nil ?_
        refine N_then ?_
        refine G_ret ?_
        refine N_block_ret ?_
        refine N_then_ret ?_
        refine N_then_ret ?_
        obtain rfl := Option.some.inj hm
        obtain rfl := hout4914 _ rfl
        have hm := hmo4921; simp only [Sum.elim_inr] at hm
        refine N_block_ret ?_
        refine N_meet_ret ?_
        refine N_then_ret ?_
        obtain rfl := Option.some.inj hm
        refine N_ret [.bool false] (RVs_cons (RV_tmp (by kernel_rfl)) RVs_nil) ?_
        exact ⟨rfl, M4927.pick [] (by kernel_rfl)⟩
      refine G_cond_f (b := (y4924 != y4925)) hc4928 (by kernel_rfl) ?_
      refine G_skip ?_
      refine N_block ?_
      refine N_then ?_
      refine G_region ?_
      refine W_run 3 [(0, .slice p4891 x4889.length c4892), (1, .slice p4896 x4894.length c4897), (5, .int .i64 (w64 (s4912 + 1)))] w4926 (by kernel_rfl) ?_
      refine W_nil ?_
      obtain rfl := Option.some.inj hm
      exact N_loop fun a ha => ⟨_, rfl, M4927.pick [] (by kernel_rfl), ha.sub (by kernel_rfl)⟩
    refine G_cond_f (b := (decide (s4912 < (x4889.length : Int)))) hc4923 (by kernel_rfl) ?_
    refine G_exit ?_
    refine N_then_exit ?_
    refine N_then_exit ?_
    refine N_block_eq ?_
    obtain rfl := Option.some.inj hm
    obtain rfl := hout4914 _ rfl
    exact N_meet fun a ha => ⟨_, rfl, M4917.pick [] (by kernel_rfl), ha.sub (by kernel_rfl)⟩
  intro a4929 w4930 ⟨o4922, hout_, M4931, hS4932⟩
  refine N_use hS4932 ?_
  subst hout_
  have hm := hmo4921; simp only [Sum.elim_inl] at hm
  refine N_then ?_
  refine G_seq ?_
  refine G_region ?_
  refine W_run 1 [(4, .bool true)] w4930 (by kernel_rfl) ?_
  refine W_nil ?_
  refine N_then ?_
  refine G_ret ?_
  obtain rfl := Option.some.inj hm
  refine N_ret [.bool true] (RVs_cons (RV_tmp (by kernel_rfl)) RVs_nil) ?_
  exact ⟨rfl, M4931.pick [] (by kernel_rfl)⟩
theorem c_l_eqBalloon (w : World) (x4966 : Balloon) (p4968 : Option Addr) (c4969 : Nat) (h4970 : rdS Gx.encI w x4966.Gave p4968 c4969) (x4971 : Balloon) (p4973 : Option Addr) (c4974 : Nat) (h4975 : rdS Gx.encI w x4971.Gave p4973 c4974) {r : Bool} (hm : M.l_eqBalloon x4966 x4971 = some r) :
    Calls Try.prog 54 #[.agg #[.int .i64 x4966.Guest, .int .i64 x4966.Goal, .slice p4968 x4966.Gave.length c4969], .agg #[.int .i64 x4971.Guest, .int .i64 x4971.Goal, .slice p4973 x4971.Gave.length c4974]] w fun e w' => e = .returned (.bool r) ∧ Mem [] w w' [] := by
  unfold M.l_eqBalloon at hm
  refine C_enter Try.func54 rfl (by kernel_rfl) ?_
  have M0 := Mem.refl [] w
  refine G_seq ?_
  refine G_region ?_
  refine W_new (fun b => .pointer (some ⟨b, 0, none⟩)) (.cells ⟨[.int .i64 x4966.Guest, .int .i64 x4966.Goal, .slice p4968 x4966.Gave.length c4969]⟩ 50 (0, 0)) M0 rfl (by kernel_rfl) (by kernel_rfl) ?_
  intro b4977 w4978 M4979
  refine W_new (fun b => .pointer (some ⟨b, 0, none⟩)) (.cells ⟨[.int .i64 x4971.Guest, .int .i64 x4971.Goal, .slice p4973 x4971.Gave.length c4974]⟩ 50 (0, 0)) M4979 rfl (by kernel_rfl) (by kernel_rfl) ?_
  intro b4981 w4982 M4983
  refine W_run 1 [(2, .pointer (some ⟨b4977, 0, none⟩)), (3, .pointer (some ⟨b4981, 0, none⟩))] w4982 (by kernel_rfl) ?_
  refine W_nil ?_
  refine N_then ?_
  refine G_seq ?_
  refine G_seq ?_
  refine G_region ?_
  refine W_run 1 [(2, .pointer (some ⟨b4977, 0, none⟩)), (3, .pointer (some ⟨b4981, 0, none⟩)), (5, .pointer (some ⟨b4977, 0, none⟩))] w4982 (by kernel_rfl) ?_
  refine W_val (.int .i64 x4966.Guest) w4982 (by kernel_rfl) (E_load (e := 50) (fr := (0, 0)) _ _ false 1 b4977 0 [.int .i64 x4966.Guest, .int .i64 x4966.Goal, .slice p4968 x4966.Gave.length c4969] (.int .i64 x4966.Guest) rfl (by kernel_rfl) (by kernel_rfl) (by kernel_rfl) (M4983.blk 0 (b := b4977) (o := .cells ⟨[.int .i64 x4966.Guest, .int .i64 x4966.Goal, .slice p4968 x4966.Gave.length c4969]⟩ 50 (0, 0)) (by kernel_rfl))) ?_
  refine W_run 1 [(2, .pointer (some ⟨b4977, 0, none⟩)), (3, .pointer (some ⟨b4981, 0, none⟩)), (6, .int .i64 x4966.Guest), (7, .pointer (some ⟨b4981, 0, none⟩))] w4982 (by kernel_rfl) ?_
  refine W_val (.int .i64 x4971.Guest) w4982 (by kernel_rfl) (E_load (e := 50) (fr := (0, 0)) _ _ false 1 b4981 0 [.int .i64 x4971.Guest, .int .i64 x4971.Goal, .slice p4973 x4971.Gave.length c4974] (.int .i64 x4971.Guest) rfl (by kernel_rfl) (by kernel_rfl) (by kernel_rfl) (M4983.blk 1 (b := b4981) (o := .cells ⟨[.int .i64 x4971.Guest, .int .i64 x4971.Goal, .slice p4973 x4971.Gave.length c4974]⟩ 50 (0, 0)) (by kernel_rfl))) ?_
  refine W_run 1 [(2, .pointer (some ⟨b4977, 0, none⟩)), (3, .pointer (some ⟨b4981, 0, none⟩)), (9, .bool (x4966.Guest != x4971.Guest))] w4982 (by kernel_rfl) ?_
  refine W_nil ?_
  refine N_then ?_
  rcases gx_bif hm with ⟨hc4984, hm⟩ | ⟨hc4984, hm⟩
  · refine G_cond_t (b := (x4966.Guest != x4971.Guest)) hc4984 (by kernel_rfl) ?_
    refine G_seq ?_
    refine G_region ?_
    refine W_run 1 [(4, .bool false)] w4982 (by kernel_rfl) ?_
    refine W_nil ?_
    refine N_then ?_
    refine G_ret ?_
    refine N_then_ret ?_
    obtain rfl := Option.some.inj hm
    refine N_ret [.bool false] (RVs_cons (RV_tmp (by kernel_rfl)) RVs_nil) ?_
    exact ⟨rfl, M4983.pick [] (by kernel_rfl)⟩
  refine G_cond_f (b := (x4966.Guest != x4971.Guest)) hc4984 (by kernel_rfl) ?_
  refine G_skip ?_
  refine N_then ?_
  refine G_seq ?_
  refine G_seq ?_
  refine G_region ?_
  refine W_run 1 [(2, .pointer (some ⟨b4977, 0, none⟩)), (3, .pointer (some ⟨b4981, 0, none⟩)), (10, .pointer (some ⟨b4977, 1, none⟩))] w4982 (by kernel_rfl) ?_
  refine W_val (.int .i64 x4966.Goal) w4982 (by kernel_rfl) (E_load (e := 50) (fr := (0, 0)) _ _ false 1 b4977 1 [.int .i64 x4966.Guest, .int .i64 x4966.Goal, .slice p4968 x4966.Gave.length c4969] (.int .i64 x4966.Goal) rfl (by kernel_rfl) (by kernel_rfl) (by kernel_rfl) (M4983.blk 0 (b := b4977) (o := .cells ⟨[.int .i64 x4966.Guest, .int .i64 x4966.Goal, .slice p4968 x4966.Gave.length c4969]⟩ 50 (0, 0)) (by kernel_rfl))) ?_
  refine W_run 1 [(2, .pointer (some ⟨b4977, 0, none⟩)), (3, .pointer (some ⟨b4981, 0, none⟩)), (11, .int .i64 x4966.Goal), (12, .pointer (some ⟨b4981, 1, none⟩))] w4982 (by kernel_rfl) ?_
  refine W_val (.int .i64 x4971.Goal) w4982 (by kernel_rfl) (E_load (e := 50) (fr := (0, 0)) _ _ false 1 b4981 1 [.int .i64 x4971.Guest, .int .i64 x4971.Goal, .slice p4973 x4971.Gave.length c4974] (.int .i64 x4971.Goal) rfl (by kernel_rfl) (by kernel_rfl) (by kernel_rfl) (M4983.blk 1 (b := b4981) (o := .cells ⟨[.int .i64 x4971.Guest, .int .i64 x4971.Goal, .slice p4973 x4971.Gave.length c4974]⟩ 50 (0, 0)) (by kernel_rfl))) ?_
  refine W_run 1 [(2, .pointer (some ⟨b4977, 0, none⟩)), (3, .pointer (some ⟨b4981, 0, none⟩)), (14, .bool (x4966.Goal != x4971.Goal))] w4982 (by kernel_rfl) ?_
  refine W_nil ?_
  refine N_then ?_
  rcases gx_bif hm with ⟨hc4985, hm⟩ | ⟨hc4985, hm⟩
  · refine G_cond_t (b := (x4966.Goal != x4971.Goal)) hc4985 (by kernel_rfl) ?_
    refine G_seq ?_
    refine G_region ?_
    refine W_run 1 [(4, .bool false)] w4982 (by kernel_rfl) ?_
    refine W_nil ?_
    refine N_then ?_
    refine G_ret ?_
    refine N_then_ret ?_
    obtain rfl := Option.some.inj hm
    refine N_ret [.bool false] (RVs_cons (RV_tmp (by kernel_rfl)) RVs_nil) ?_
    exact ⟨rfl, M4983.pick [] (by kernel_rfl)⟩
  refine G_cond_f (b := (x4966.Goal != x4971.Goal)) hc4985 (by kernel_rfl) ?_
  refine G_skip ?_
  refine N_then ?_
  refine G_seq ?_
  refine G_seq ?_
  refine G_region ?_
  refine W_run 1 [(3, .pointer (some ⟨b4981, 0, none⟩)), (15, .pointer (some ⟨b4977, 2, none⟩))] w4982 (by kernel_rfl) ?_
  refine W_val (.slice p4968 x4966.Gave.length c4969) w4982 (by kernel_rfl) (E_load (e := 50) (fr := (0, 0)) _ _ false 1 b4977 2 [.int .i64 x4966.Guest, .int .i64 x4966.Goal, .slice p4968 x4966.Gave.length c4969] (.slice p4968 x4966.Gave.length c4969) rfl (by kernel_rfl) (by kernel_rfl) (by kernel_rfl) (M4983.blk 0 (b := b4977) (o := .cells ⟨[.int .i64 x4966.Guest, .int .i64 x4966.Goal, .slice p4968 x4966.Gave.length c4969]⟩ 50 (0, 0)) (by kernel_rfl))) ?_
  refine W_run 1 [(16, .slice p4968 x4966.Gave.length c4969), (17, .pointer (some ⟨b4981, 2, none⟩))] w4982 (by kernel_rfl) ?_
  refine W_val (.slice p4973 x4971.Gave.length c4974) w4982 (by kernel_rfl) (E_load (e := 50) (fr := (0, 0)) _ _ false 1 b4981 2 [.int .i64 x4971.Guest, .int .i64 x4971.Goal, .slice p4973 x4971.Gave.length c4974] (.slice p4973 x4971.Gave.length c4974) rfl (by kernel_rfl) (by kernel_rfl) (by kernel_rfl) (M4983.blk 1 (b := b4981) (o := .cells ⟨[.int .i64 x4971.Guest, .int .i64 x4971.Goal, .slice p4973 x4971.Gave.length c4974]⟩ 50 (0, 0)) (by kernel_rfl))) ?_
  obtain ⟨r4986, hr4986, hm⟩ := gx_bind hm
  refine W_call 18 #[.slice p4968 x4966.Gave.length c4969, .slice p4973 x4971.Gave.length c4974] (by kernel_rfl) (by kernel_rfl) ?_
  refine (c_l_eqIntS w4982 x4966.Gave p4968 c4969 (h4970.mem0 M4983) x4971.Gave p4973 c4974 (h4975.mem0 M4983) hr4986).mono ?_
  rintro e_ w4987 ⟨rfl, K4988⟩
  have M4989 := M4983.call0 K4988
  refine ⟨_, rfl, ?_⟩
  refine W_run 1 [(20, .bool (!r4986))] w4987 (by kernel_rfl) ?_
  refine W_nil ?_
  refine N_then ?_
  rcases gx_bif hm with ⟨hc4990, hm⟩ | ⟨hc4990, hm⟩
  · refine G_cond_t (b := (!r4986)) hc4990 (by kernel_rfl) ?_
    refine G_seq ?_
    refine G_region ?_
    refine W_run 1 [(4, .bool false)] w4987 (by kernel_rfl) ?_
    refine W_nil ?_
    refine N_then ?_
    refine G_ret ?_
    refine N_then_ret ?_
    obtain rfl := Option.some.inj hm
    refine N_ret [.bool false] (RVs_cons (RV_tmp (by kernel_rfl)) RVs_nil) ?_
    exact ⟨rfl, M4989.pick [] (by kernel_rfl)⟩
  refine G_cond_f (b := (!r4986)) hc4990 (by kernel_rfl) ?_
  refine G_skip ?_
  refine N_then ?_
  refine G_seq ?_
  refine G_region ?_
  refine W_run 1 [(4, .bool true)] w4987 (by kernel_rfl) ?_
  refine W_nil ?_
  refine N_then ?_
  refine G_ret ?_
  obtain rfl := Option.some.inj hm
  refine N_ret [.bool true] (RVs_cons (RV_tmp (by kernel_rfl)) RVs_nil) ?_
  exact ⟨rfl, M4989.pick [] (by kernel_rfl)⟩
theorem c_l_eqBalloonS (w : World) (x4938 : List Balloon) (p4940 : Option Addr) (c4941 : Nat) (h4942 : rdD deepBalloon w x4938 p4940 c4941) (x4943 : List Balloon) (p4945 : Option Addr) (c4946 : Nat) (h4947 : rdD deepBalloon w x4943 p4945 c4946) {r : Bool} (hm : M.l_eqBalloonS x4938 x4943 = some r) :
    Calls Try.prog 19 #[.slice p4940 x4938.length c4941, .slice p4945 x4943.length c4946] w fun e w' => e = .returned (.bool r) ∧ Mem [] w w' [] := by
  unfold M.l_eqBalloonS at hm
  refine C_enter Try.func19 rfl (by kernel_rfl) ?_
  have M0 := Mem.refl [] w
  refine G_seq ?_
  refine G_region ?_
  refine W_run 1 [(0, .slice p4940 x4938.length c4941), (1, .slice p4945 x4943.length c4946)] w (by kernel_rfl) ?_
  refine W_nil ?_
  refine N_then ?_
  refine G_seq ?_
  refine G_seq ?_
  refine G_region ?_
  refine W_run 5 [(0, .slice p4940 x4938.length c4941), (1, .slice p4945 x4943.length c4946), (10, .bool ((x4938.length : Int) != (x4943.length : Int)))] w (by kernel_rfl) ?_
  refine W_nil ?_
  refine N_then ?_
  rcases gx_bif hm with ⟨hc4948, hm⟩ | ⟨hc4948, hm⟩
  · refine G_cond_t (b := ((x4938.length : Int) != (x4943.length : Int))) hc4948 (by kernel_rfl) ?_
    refine G_seq ?_
    refine G_region ?_
    refine W_run 1 [(4, .bool false)] w (by kernel_rfl) ?_
    refine W_nil ?_
    refine N_then ?_
    refine G_ret ?_
    refine N_then_ret ?_
    obtain rfl := Option.some.inj hm
    refine N_ret [.bool false] (RVs_cons (RV_tmp (by kernel_rfl)) RVs_nil) ?_
    exact ⟨rfl, M0.pick [] (by kernel_rfl)⟩
  refine G_cond_f (b := ((x4938.length : Int) != (x4943.length : Int))) hc4948 (by kernel_rfl) ?_
  refine G_skip ?_
  refine N_then ?_
  refine G_seq ?_
  refine G_seq ?_
  refine G_region ?_
  refine W_run 1 [(0, .slice p4940 x4938.length c4941), (1, .slice p4945 x4943.length c4946), (5, .int .i64 0)] w (by kernel_rfl) ?_
  refine W_nil ?_
  refine N_then ?_
  obtain ⟨out5029, hw5030, hmo5031⟩ := gx_bind hm
  refine G_meet (fun a w' => ∃ (o5032 : Unit), out5029 = .inl o5032 ∧ Mem [] w w' [] ∧ Sat Try.f19.ntmps [] a) ?_ ?_
  · refine G_block ?_
    refine G_while (σ := Int) (ρ := (Unit) ⊕ (Bool)) (fun s5022 a w' => Mem [] w w' [] ∧ Sat Try.f19.ntmps [(0, .slice p4940 x4938.length c4941), (1, .slice p4945 x4943.length c4946), (5, .int .i64 s5022)] a) hw5030 (fun a ha => ⟨M0.pick [] (by kernel_rfl), ha.sub (by kernel_rfl)⟩) ?_
    clear hm
    intro s5022 x5023 hm hout5024 a5025 w5026 ⟨M5027, hS5028⟩
    refine G_use hS5028 ?_
    refine G_seq ?_
    refine G_seq ?_
    refine G_region ?_
    refine W_run 4 [(0, .slice p4940 x4938.length c4941), (1, .slice p4945 x4943.length c4946), (5, .int .i64 s5022), (14, .bool (decide (s5022 < (x4938.length : Int))))] w5026 (by kernel_rfl) ?_
    refine W_nil ?_
    refine N_then ?_
    rcases gx_bif hm with ⟨hc5033, hm⟩ | ⟨hc5033, hm⟩
    · refine G_cond_t (b := (decide (s5022 < (x4938.length : Int)))) hc5033 (by kernel_rfl) ?_
      refine G_skip ?_
      refine N_then ?_
      refine G_seq ?_
      refine G_block ?_
      refine G_seq ?_
      refine G_quiet (by kernel_rfl) (by kernel_rfl) M5027 ?_
      refine Z_runs [.slice p4940 x4938.length c4941, .int .i64 s5022] [(0, .slice p4940 x4938.length c4941), (1, .slice p4945 x4943.length c4946), (5, .int .i64 s5022), (17, .slice p4940 x4938.length c4941), (18, .int .i64 s5022)] (fun w_ => by kernel_rfl) (by kernel_rfl) ?_
      obtain ⟨y5034, hy5034, hm⟩ := gx_bind hm
      obtain ⟨zs5035, hz5036, hr5037, hi5038⟩ := id h4942
      obtain ⟨g5039, hg5040⟩ := gxIdx_fst hz5036 hy5034
      refine Z_val (elemP p4940 (s5022.toNat * 3)) (by kernel_rfl) (fun w_ M_ => (E_index (E := deepBalloon.E) _ _ _ x4938.length c4941 .i64 s5022 3 (y := (y5034, g5039)) rfl (by kernel_rfl) (by kernel_rfl) (by kernel_rfl) (hr5037.mem0 M_) (len_fst hz5036) hg5040)) ?_
      refine Z_val (.agg #[.int .i64 y5034.Guest, .int .i64 y5034.Goal, .slice ((g5039 0).1) y5034.Gave.length ((g5039 0).2)]) (by kernel_rfl) (fun w_ M_ => (E_loadE (E := deepBalloon.E) _ _ true 3 s5022 0 (s5022.toNat * 3) (y5034, g5039) (.agg #[.int .i64 y5034.Guest, .int .i64 y5034.Goal, .slice ((g5039 0).1) y5034.Gave.length ((g5039 0).2)]) rfl (by kernel_rfl) (by kernel_rfl) (by kernel_rfl) (hr5037.mem0 M_) hg5040 rfl)) ?_
      refine Z_runs [.slice p4945 x4943.length c4946, .int .i64 s5022] [(0, .slice p4940 x4938.length c4941), (1, .slice p4945 x4943.length c4946), (5, .int .i64 s5022), (20, .agg #[.int .i64 y5034.Guest, .int .i64 y5034.Goal, .slice ((g5039 0).1) y5034.Gave.length ((g5039 0).2)]), (21, .slice p4945 x4943.length c4946), (22, .int .i64 s5022)] (fun w_ => by kernel_rfl) (by kernel_rfl) ?_
      obtain ⟨y5042, hy5042, hm⟩ := gx_bind hm
      obtain ⟨zs5043, hz5044, hr5045, hi5046⟩ := id h4947
      obtain ⟨g5047, hg5048⟩ := gxIdx_fst hz5044 hy5042
      refine Z_val (elemP p4945 (s5022.toNat * 3)) (by kernel_rfl) (fun w_ M_ => (E_index (E := deepBalloon.E) _ _ _ x4943.length c4946 .i64 s5022 3 (y := (y5042, g5047)) rfl (by kernel_rfl) (by kernel_rfl) (by kernel_rfl) (hr5045.mem0 M_) (len_fst hz5044) hg5048)) ?_
      refine Z_val (.agg #[.int .i64 y5042.Guest, .int .i64 y5042.Goal, .slice ((g5047 0).1) y5042.Gave.length ((g5047 0).2)]) (by kernel_rfl) (fun w_ M_ => (E_loadE (E := deepBalloon.E) _ _ true 3 s5022 0 (s5022.toNat * 3) (y5042, g5047) (.agg #[.int .i64 y5042.Guest, .int .i64 y5042.Goal, .slice ((g5047 0).1) y5042.Gave.length ((g5047 0).2)]) rfl (by kernel_rfl) (by kernel_rfl) (by kernel_rfl) (hr5045.mem0 M_) hg5048 rfl)) ?_
      obtain ⟨r5050, hr5050, hm⟩ := gx_bind hm
      refine Z_call 54 #[.agg #[.int .i64 y5034.Guest, .int .i64 y5034.Goal, .slice ((g5039 0).1) y5034.Gave.length ((g5039 0).2)], .agg #[.int .i64 y5042.Guest, .int .i64 y5042.Goal, .slice ((g5047 0).1) y5042.Gave.length ((g5047 0).2)]] (.bool r5050) (by kernel_rfl) (fun w_ => by kernel_rfl) (fun w_ M_ => (c_l_eqBalloon w_ y5034 ((g5039 0).1) ((g5039 0).2) ((hi5038.mem0 M_).at_ hg5040 0 ⟨Int, Gx.encI, y5034.Gave, (g5039 0).1, (g5039 0).2⟩ (by kernel_rfl)) y5042 ((g5047 0).1) ((g5047 0).2) ((hi5046.mem0 M_).at_ hg5048 0 ⟨Int, Gx.encI, y5042.Gave, (g5047 0).1, (g5047 0).2⟩ (by kernel_rfl)) hr5050).mono fun e w2_ h_ => ⟨h_.1, M_.call0 h_.2⟩) ?_
      refine Z_runs [.bool (!r5050)] [(0, .slice p4940 x4938.length c4941), (1, .slice p4945 x4943.length c4946), (5, .int .i64 s5022), (26, .bool (!r5050))] (fun w_ => by kernel_rfl) (by kernel_rfl) ?_
      refine Z_end fun w5054 M5055 => ?_
      refine N_then ?_
      rcases gx_bif hm with ⟨hc5056, hm⟩ | ⟨hc5056, hm⟩
      · refine G_cond_t (b := (!r5050)) hc5056 (by kernel_rfl) ?_
        refine G_seq ?_
        refine G_region ?_
        refine W_run 1 [(4, .bool false)] w5054 (by kernel_rfl) ?_
        refine W_nil ?_
        refine N_then ?_
        refine G_ret ?_
        refine N_block_ret ?_
        refine N_then_ret ?_
        refine N_then_ret ?_
        obtain rfl := Option.some.inj hm
        obtain rfl := hout5024 _ rfl
        have hm := hmo5031; simp only [Sum.elim_inr] at hm
        refine N_block_ret ?_
        refine N_meet_ret ?_
        refine N_then_ret ?_
        obtain rfl := Option.some.inj hm
        refine N_ret [.bool false] (RVs_cons (RV_tmp (by kernel_rfl)) RVs_nil) ?_
        exact ⟨rfl, M5055.pick [] (by kernel_rfl)⟩
      refine G_cond_f (b := (!r5050)) hc5056 (by kernel_rfl) ?_
      refine G_skip ?_
      refine N_block ?_
      refine N_then ?_
      refine G_region ?_
      refine W_run 3 [(0, .slice p4940 x4938.length c4941), (1, .slice p4945 x4943.length c4946), (5, .int .i64 (w64 (s5022 + 1)))] w5054 (by kernel_rfl) ?_
      refine W_nil ?_
      obtain rfl := Option.some.inj hm
      exact N_loop fun a ha => ⟨_, rfl, M5055.pick [] (by kernel_rfl), ha.sub (by kernel_rfl)⟩
    refine G_cond_f (b := (decide (s5022 < (x4938.length : Int)))) hc5033 (by kernel_rfl) ?_
    refine G_exit ?_
    refine N_then_exit ?_
    refine N_then_exit ?_
    refine N_block_eq ?_
    obtain rfl := Option.some.inj hm
    obtain rfl := hout5024 _ rfl
    exact N_meet fun a ha => ⟨_, rfl, M5027.pick [] (by kernel_rfl), ha.sub (by kernel_rfl)⟩
  intro a5057 w5058 ⟨o5032, hout_, M5059, hS5060⟩
  refine N_use hS5060 ?_
  subst hout_
  have hm := hmo5031; simp only [Sum.elim_inl] at hm
  refine N_then ?_
  refine G_seq ?_
  refine G_region ?_
  refine W_run 1 [(4, .bool true)] w5058 (by kernel_rfl) ?_
  refine W_nil ?_
  refine N_then ?_
  refine G_ret ?_
  obtain rfl := Option.some.inj hm
  refine N_ret [.bool true] (RVs_cons (RV_tmp (by kernel_rfl)) RVs_nil) ?_
  exact ⟨rfl, M5059.pick [] (by kernel_rfl)⟩
theorem c_l_markIntS (w : World) (x5115 : List Int) (p5117 : Option Addr) (c5118 : Nat) (sg5119 : Seg) (ho5120 : ownS Gx.encI x5115 p5117 c5118 sg5119) (x5121 : Int) (hA : ∀ q ∈ List.flatten [sg5119], w.heap[q.1]? = some q.2) (hN : (idsOf [sg5119]).Nodup) {r : Int × (List Int)} (hm : M.l_markIntS x5115 x5121 = some r) :
    Calls Try.prog 24 #[.slice p5117 x5115.length c5118, .int .i64 x5121] w fun e w' => ∃ (sg5122 : Seg), e = .returned (.int .i64 r.1) ∧ ownS Gx.encI r.2 p5117 c5118 sg5122 ∧ r.2.length = x5115.length ∧ Mem (idsOf [sg5119]) w w' [sg5122] := by
  unfold M.l_markIntS at hm
  refine C_enter Try.func24 rfl (by kernel_rfl) ?_
  have M0 := Mem.start' w [sg5119] hA hN
  refine G_seq ?_
  refine G_region ?_
  refine W_run 1 [(0, .slice p5117 x5115.length c5118), (1, .int .i64 x5121)] w (by kernel_rfl) ?_
  refine W_nil ?_
  refine N_then ?_
  refine G_seq ?_
  refine G_seq ?_
  refine G_region ?_
  refine W_run 1 [(0, .slice p5117 x5115.length c5118), (1, .int .i64 x5121), (5, .int .i64 0)] w (by kernel_rfl) ?_
  refine W_nil ?_
  refine N_then ?_
  obtain ⟨out5145, hw5146, hmo5147⟩ := gx_bind hm
  refine G_meet (fun a w' => ∃ (sg5152 : Seg), ownS Gx.encI out5145.2 p5117 c5118 sg5152 ∧ out5145.2.length = x5115.length ∧ Mem (idsOf [sg5119]) w w' [sg5152] ∧ Sat Try.f24.ntmps [(1, .int .i64 out5145.1)] a) ?_ ?_
  · refine G_block ?_
    refine G_while (σ := Int × Int × List Int) (ρ := Int × List Int) (fun s5138 a w' => ∃ (sg5148 : Seg), ownS Gx.encI s5138.2.2 p5117 c5118 sg5148 ∧ s5138.2.2.length = x5115.length ∧ Mem (idsOf [sg5119]) w w' [sg5148] ∧ Sat Try.f24.ntmps [(0, .slice p5117 s5138.2.2.length c5118), (1, .int .i64 s5138.1), (5, .int .i64 s5138.2.1)] a) hw5146 (fun a ha => ⟨sg5119, ho5120, rfl, M0.pick [0] (by kernel_rfl), ha.sub (by kernel_rfl)⟩) ?_
    clear hm
    intro s5138 x5139 hm hout5140 a5141 w5142 ⟨sg5148, ho5149, hl5150, M5143, hS5144⟩
    refine G_use hS5144 ?_
    refine G_seq ?_
    refine G_seq ?_
    refine G_region ?_
    refine W_run 4 [(0, .slice p5117 s5138.2.2.length c5118), (1, .int .i64 s5138.1), (5, .int .i64 s5138.2.1), (9, .bool (decide (s5138.2.1 < (s5138.2.2.length : Int))))] w5142 (by kernel_rfl) ?_
    refine W_nil ?_
    refine N_then ?_
    rcases gx_bif hm with ⟨hc5155, hm⟩ | ⟨hc5155, hm⟩
    · refine G_cond_t (b := (decide (s5138.2.1 < (s5138.2.2.length : Int)))) hc5155 (by kernel_rfl) ?_
      refine G_skip ?_
      refine N_then ?_
      refine G_seq ?_
      refine G_block ?_
      refine G_seq ?_
      refine G_region ?_
      refine W_run 3 [(0, .slice p5117 s5138.2.2.length c5118), (1, .int .i64 s5138.1), (5, .int .i64 s5138.2.1), (12, .slice p5117 s5138.2.2.length c5118), (13, .int .i64 s5138.2.1), (14, .int .i64 s5138.1)] w5142 (by kernel_rfl) ?_
      obtain ⟨y5156, hy5156, hm⟩ := gx_bind hm
      refine W_val (elemP p5117 (s5138.2.1.toNat * 1)) w5142 (by kernel_rfl) (E_index (E := Gx.encI) _ _ _ s5138.2.2.length c5118 .i64 s5138.2.1 1 (y := y5156) rfl (by kernel_rfl) (by kernel_rfl) (by kernel_rfl) (ho5149.rd M5143 0 (by kernel_rfl)) rfl hy5156) ?_
      refine W_storeE (E := Gx.encI) _ _ _ false 1 s5138.2.1.toNat 0 (s5138.2.1.toNat * 1) y5156 s5138.1 (.int .i64 s5138.1) 0 M5143 ho5149 (by kernel_rfl) (by kernel_rfl) rfl (by kernel_rfl) (by kernel_rfl) (by kernel_rfl) (by kernel_rfl) (by kernel_rfl) (by kernel_rfl) (by kernel_rfl) (gxIdx_spec hy5156).2 rfl ?_
      intro w5157 sg5159 ho5160 M5158
      refine W_conv 0 (.slice p5117 s5138.2.2.length c5118) (.slice p5117 (s5138.2.2.set s5138.2.1.toNat s5138.1).length c5118) (by kernel_rfl) (by rw [@List.length_set _ s5138.2.2 s5138.2.1.toNat s5138.1]) ?_
      refine W_conv 12 (.slice p5117 s5138.2.2.length c5118) (.slice p5117 (s5138.2.2.set s5138.2.1.toNat s5138.1).length c5118) (by kernel_rfl) (by rw [@List.length_set _ s5138.2.2 s5138.2.1.toNat s5138.1]) ?_
      refine W_nil ?_
      refine N_then ?_
      refine G_region ?_
      refine W_run 3 [(0, .slice p5117 (s5138.2.2.set s5138.2.1.toNat s5138.1).length c5118), (1, .int .i64 (w64 (s5138.1 + 1))), (5, .int .i64 s5138.2.1)] w5157 (by kernel_rfl) ?_
      refine W_nil ?_
      refine N_block ?_
      refine N_then ?_
      refine G_region ?_
      refine W_run 3 [(0, .slice p5117 (s5138.2.2.set s5138.2.1.toNat s5138.1).length c5118), (1, .int .i64 (w64 (s5138.1 + 1))), (5, .int .i64 (w64 (s5138.2.1 + 1)))] w5157 (by kernel_rfl) ?_
      refine W_nil ?_
      obtain rfl := Option.some.inj hm
      exact N_loop fun a ha => ⟨_, rfl, sg5159, ho5160, (List.length_set.trans hl5150), M5158.pick [0] (by kernel_rfl), ha.sub (by kernel_rfl)⟩
    refine G_cond_f (b := (decide (s5138.2.1 < (s5138.2.2.length : Int)))) hc5155 (by kernel_rfl) ?_
    refine G_exit ?_
    refine N_then_exit ?_
    refine N_then_exit ?_
    refine N_block_eq ?_
    obtain rfl := Option.some.inj hm
    obtain rfl := hout5140 _ rfl
    exact N_meet fun a ha => ⟨sg5148, ho5149, hl5150, M5143.pick [0] (by kernel_rfl), ha.sub (by kernel_rfl)⟩
  intro a5161 w5162 ⟨sg5152, ho5153, hl5154, M5163, hS5164⟩
  refine N_use hS5164 ?_
  have hm := hmo5147
  refine N_then ?_
  refine G_seq ?_
  refine G_region ?_
  refine W_run 2 [(4, .int .i64 out5145.1)] w5162 (by kernel_rfl) ?_
  refine W_nil ?_
  refine N_then ?_
  refine G_ret ?_
  obtain rfl := Option.some.inj hm
  refine N_ret [.int .i64 out5145.1] (RVs_cons (RV_tmp (by kernel_rfl)) RVs_nil) ?_
  exact ⟨sg5152, rfl, ho5153, hl5154, M5163.pick [0] (by kernel_rfl)⟩
theorem c_l_markBalloonS (w : World) (x5172 : List Balloon) (p5174 : Option Addr) (c5175 : Nat) (sg5176 : Seg) (sg5177 : Seg) (ho5178 : ownD deepBalloon x5172 p5174 c5175 sg5176 sg5177) (x5179 : Int) (hA : ∀ q ∈ List.flatten [sg5176, sg5177], w.heap[q.1]? = some q.2) (hN : (idsOf [sg5176, sg5177]).Nodup) {r : Int × (List Balloon)} (hm : M.l_markBalloonS x5172 x5179 = some r) :
    Calls Try.prog 25 #[.slice p5174 x5172.length c5175, .int .i64 x5179] w fun e w' => ∃ (sg5180 : Seg) (sg5181 : Seg), e = .returned (.int .i64 r.1) ∧ ownD deepBalloon r.2 p5174 c5175 sg5180 sg5181 ∧ r.2.length = x5172.length ∧ Mem (idsOf [sg5176, sg5177]) w w' [sg5180, sg5181] := by
  unfold M.l_markBalloonS at hm
  refine C_enter Try.func25 rfl (by kernel_rfl) ?_
  have M0 := Mem.start' w [sg5176, sg5177] hA hN
  refine G_seq ?_
  refine G_region ?_
  refine W_run 1 [(0, .slice p5174 x5172.length c5175), (1, .int .i64 x5179)] w (by kernel_rfl) ?_
  refine W_nil ?_
  refine N_then ?_
  refine G_seq ?_
  refine G_seq ?_
  refine G_region ?_
  refine W_run 1 [(0, .slice p5174 x5172.length c5175), (1, .int .i64 x5179), (5, .int .i64 0)] w (by kernel_rfl) ?_
  refine W_nil ?_
  refine N_then ?_
  obtain ⟨out5319, hw5320, hmo5321⟩ := gx_bind hm
  refine G_meet (fun a w' => ∃ (sg5327 : Seg), ∃ (sg5328 : Seg), ownD deepBalloon out5319.2 p5174 c5175 sg5327 sg5328 ∧ out5319.2.length = x5172.length ∧ Mem (idsOf [sg5176, sg5177]) w w' [sg5327, sg5328] ∧ Sat Try.f25.ntmps [(1, .int .i64 out5319.1)] a) ?_ ?_
  · refine G_block ?_
    refine G_while (σ := Int × Int × List Balloon) (ρ := Int × List Balloon) (fun s5312 a w' => ∃ (sg5322 : Seg), ∃ (sg5323 : Seg), ownD deepBalloon s5312.2.2 p5174 c5175 sg5322 sg5323 ∧ s5312.2.2.length = x5172.length ∧ Mem (idsOf [sg5176, sg5177]) w w' [sg5322, sg5323] ∧ Sat Try.f25.ntmps [(0, .slice p5174 s5312.2.2.length c5175), (1, .int .i64 s5312.1), (5, .int .i64 s5312.2.1)] a) hw5320 (fun a ha => ⟨sg5176, sg5177, ho5178, rfl, M0.pick [0, 1] (by kernel_rfl), ha.sub (by kernel_rfl)⟩) ?_
    clear hm
    intro s5312 x5313 hm hout5314 a5315 w5316 ⟨sg5322, sg5323, ho5324, hl5325, M5317, hS5318⟩
    refine G_use hS5318 ?_
    refine G_seq ?_
    refine G_seq ?_
    refine G_region ?_
    refine W_run 4 [(0, .slice p5174 s5312.2.2.length c5175), (1, .int .i64 s5312.1), (5, .int .i64 s5312.2.1), (9, .bool (decide (s5312.2.1 < (s5312.2.2.length : Int))))] w5316 (by kernel_rfl) ?_
    refine W_nil ?_
    refine N_then ?_
    rcases gx_bif hm with ⟨hc5331, hm⟩ | ⟨hc5331, hm⟩
    · refine G_cond_t (b := (decide (s5312.2.1 < (s5312.2.2.length : Int)))) hc5331 (by kernel_rfl) ?_
      refine G_skip ?_
      refine N_then ?_
      refine G_seq ?_
      refine G_block ?_
      refine G_seq ?_
      refine G_region ?_
      refine W_run 3 [(0, .slice p5174 s5312.2.2.length c5175), (1, .int .i64 s5312.1), (5, .int .i64 s5312.2.1), (12, .slice p5174 s5312.2.2.length c5175), (13, .int .i64 s5312.2.1), (14, .int .i64 s5312.1)] w5316 (by kernel_rfl) ?_
      obtain ⟨y5332, hy5332, hm⟩ := gx_bind hm
      obtain ⟨zs5333, hz5334, hr5335, hi5336⟩ := id ho5324
      obtain ⟨g5337, hg5338⟩ := gxIdx_fst hz5334 hy5332
      refine W_val (elemP p5174 (s5312.2.1.toNat * 3)) w5316 (by kernel_rfl) (E_index (E := deepBalloon.E) _ _ _ s5312.2.2.length c5175 .i64 s5312.2.1 3 (y := (y5332, g5337)) rfl (by kernel_rfl) (by kernel_rfl) (by kernel_rfl) (hr5335.rd M5317 0 (by kernel_rfl)) (len_fst hz5334) hg5338) ?_
      refine W_val (elemP p5174 (s5312.2.1.toNat * 3 + 0)) w5316 (by kernel_rfl) (E_fieldE (E := deepBalloon.E) _ _ 0 (s5312.2.1.toNat * 3) 0 rfl (by kernel_rfl) (by kernel_rfl) (hr5335.rd M5317 0 (by kernel_rfl)) hg5338) ?_
      refine W_storeE (E := deepBalloon.E) _ _ _ false 1 s5312.2.1.toNat 0 (s5312.2.1.toNat * 3 + 0) (y5332, g5337) ((⟨s5312.1, y5332.Goal, y5332.Gave⟩ : Balloon), g5337) (.int .i64 s5312.1) 0 M5317 hr5335 (by kernel_rfl) (by kernel_rfl) rfl (by kernel_rfl) (by kernel_rfl) (by kernel_rfl) (by kernel_rfl) (by kernel_rfl) (by kernel_rfl) (by kernel_rfl) (gxIdx_spec hg5338).2 rfl ?_
      intro w5340 sg5342 ho5343 M5341
      have ho5344 : ownD deepBalloon (s5312.2.2.set s5312.2.1.toNat (⟨s5312.1, y5332.Goal, y5332.Gave⟩ : Balloon)) p5174 c5175 sg5342 sg5323 := ⟨_, set_fst hz5334 s5312.2.1.toNat ((⟨s5312.1, y5332.Goal, y5332.Gave⟩ : Balloon), g5337), ho5343, (by rw [flatMap_setSame (gxIdx_spec hg5338).2 (by kernel_rfl)]; exact hi5336)⟩
      have hput5345 := gxIdx_put (⟨s5312.1, y5332.Goal, y5332.Gave⟩ : Balloon) (gxIdx_down hz5334 hg5338)
      refine W_conv 0 (.slice p5174 s5312.2.2.length c5175) (.slice p5174 (s5312.2.2.set s5312.2.1.toNat (⟨s5312.1, y5332.Goal, y5332.Gave⟩ : Balloon)).length c5175) (by kernel_rfl) (by rw [@List.length_set _ s5312.2.2 s5312.2.1.toNat (⟨s5312.1, y5332.Goal, y5332.Gave⟩ : Balloon)]) ?_
      refine W_conv 12 (.slice p5174 s5312.2.2.length c5175) (.slice p5174 (s5312.2.2.set s5312.2.1.toNat (⟨s5312.1, y5332.Goal, y5332.Gave⟩ : Balloon)).length c5175) (by kernel_rfl) (by rw [@List.length_set _ s5312.2.2 s5312.2.1.toNat (⟨s5312.1, y5332.Goal, y5332.Gave⟩ : Balloon)]) ?_
      refine W_nil ?_
      refine N_then ?_
      refine G_seq ?_
      refine G_region ?_
      refine W_run 3 [(0, .slice p5174 (s5312.2.2.set s5312.2.1.toNat (⟨s5312.1, y5332.Goal, y5332.Gave⟩ : Balloon)).length c5175), (1, .int .i64 (w64 (s5312.1 + 1))), (5, .int .i64 s5312.2.1)] w5340 (by kernel_rfl) ?_
      refine W_nil ?_
      refine N_then ?_
      refine G_seq ?_
      refine G_region ?_
      refine W_run 3 [(0, .slice p5174 (s5312.2.2.set s5312.2.1.toNat (⟨s5312.1, y5332.Goal, y5332.Gave⟩ : Balloon)).length c5175), (1, .int .i64 (w64 (s5312.1 + 1))), (5, .int .i64 s5312.2.1), (19, .slice p5174 (s5312.2.2.set s5312.2.1.toNat (⟨s5312.1, y5332.Goal, y5332.Gave⟩ : Balloon)).length c5175), (20, .int .i64 s5312.2.1), (21, .int .i64 (w64 (s5312.1 + 1)))] w5340 (by kernel_rfl) ?_
      obtain ⟨y5346, hy5346, hm⟩ := gx_bind hm
      obtain ⟨zs5347, hz5348, hr5349, hi5350⟩ := id ho5344
      obtain ⟨g5351, hg5352⟩ := gxIdx_fst hz5348 hy5346
      refine W_val (elemP p5174 (s5312.2.1.toNat * 3)) w5340 (by kernel_rfl) (E_index (E := deepBalloon.E) _ _ _ (s5312.2.2.set s5312.2.1.toNat (⟨s5312.1, y5332.Goal, y5332.Gave⟩ : Balloon)).length c5175 .i64 s5312.2.1 3 (y := (y5346, g5351)) rfl (by kernel_rfl) (by kernel_rfl) (by kernel_rfl) (hr5349.rd M5341 0 (by kernel_rfl)) (len_fst hz5348) hg5352) ?_
      refine W_val (elemP p5174 (s5312.2.1.toNat * 3 + 1)) w5340 (by kernel_rfl) (E_fieldE (E := deepBalloon.E) _ _ 1 (s5312.2.1.toNat * 3) 1 rfl (by kernel_rfl) (by kernel_rfl) (hr5349.rd M5341 0 (by kernel_rfl)) hg5352) ?_
      refine W_storeE (E := deepBalloon.E) _ _ _ false 1 s5312.2.1.toNat 1 (s5312.2.1.toNat * 3 + 1) (y5346, g5351) ((⟨y5346.Guest, w64 (s5312.1 + 1), y5346.Gave⟩ : Balloon), g5351) (.int .i64 (w64 (s5312.1 + 1))) 0 M5341 hr5349 (by kernel_rfl) (by kernel_rfl) rfl (by kernel_rfl) (by kernel_rfl) (by kernel_rfl) (by kernel_rfl) (by kernel_rfl) (by kernel_rfl) (by kernel_rfl) (gxIdx_spec hg5352).2 rfl ?_
      intro w5354 sg5356 ho5357 M5355
      have ho5358 : ownD deepBalloon ((s5312.2.2.set s5312.2.1.toNat (⟨s5312.1, y5332.Goal, y5332.Gave⟩ : Balloon)).set s5312.2.1.toNat (⟨y5346.Guest, w64 (s5312.1 + 1), y5346.Gave⟩ : Balloon)) p5174 c5175 sg5356 sg5323 := ⟨_, set_fst hz5348 s5312.2.1.toNat ((⟨y5346.Guest, w64 (s5312.1 + 1), y5346.Gave⟩ : Balloon), g5351), ho5357, (by rw [flatMap_setSame (gxIdx_spec hg5352).2 (by kernel_rfl)]; exact hi5350)⟩
      have hput5359 := gxIdx_put (⟨y5346.Guest, w64 (s5312.1 + 1), y5346.Gave⟩ : Balloon) (gxIdx_down hz5348 hg5352)
      refine W_conv 0 (.slice p5174 (s5312.2.2.set s5312.2.1.toNat (⟨s5312.1, y5332.Goal, y5332.Gave⟩ : Balloon)).length c5175) (.slice p5174 ((s5312.2.2.set s5312.2.1.toNat (⟨s5312.1, y5332.Goal, y5332.Gave⟩ : Balloon)).set s5312.2.1.toNat (⟨y5346.Guest, w64 (s5312.1 + 1), y5346.Gave⟩ : Balloon)).length c5175) (by kernel_rfl) (by rw [@List.length_set _ (s5312.2.2.set s5312.2.1.toNat (⟨s5312.1, y5332.Goal, y5332.Gave⟩ : Balloon)) s5312.2.1.toNat (⟨y5346.Guest, w64 (s5312.1 + 1), y5346.Gave⟩ : Balloon)]) ?_
      refine W_conv 19 (.slice p5174 (s5312.2.2.set s5312.2.1.toNat (⟨s5312.1, y5332.Goal, y5332.Gave⟩ : Balloon)).length c5175) (.slice p5174 ((s5312.2.2.set s5312.2.1.toNat (⟨s5312.1, y5332.Goal, y5332.Gave⟩ : Balloon)).set s5312.2.1.toNat (⟨y5346.Guest, w64 (s5312.1 + 1), y5346.Gave⟩ : Balloon)).length c5175) (by kernel_rfl) (by rw [@List.length_set _ (s5312.2.2.set s5312.2.1.toNat (⟨s5312.1, y5332.Goal, y5332.Gave⟩ : Balloon)) s5312.2.1.toNat (⟨y5346.Guest, w64 (s5312.1 + 1), y5346.Gave⟩ : Balloon)]) ?_
      refine W_nil ?_
      refine N_then ?_
      refine G_seq ?_
      refine G_region ?_
      refine W_run 3 [(0, .slice p5174 ((s5312.2.2.set s5312.2.1.toNat (⟨s5312.1, y5332.Goal, y5332.Gave⟩ : Balloon)).set s5312.2.1.toNat (⟨y5346.Guest, w64 (s5312.1 + 1), y5346.Gave⟩ : Balloon)).length c5175), (1, .int .i64 (w64 ((w64 (s5312.1 + 1)) + 1))), (5, .int .i64 s5312.2.1)] w5354 (by kernel_rfl) ?_
      refine W_nil ?_
      refine N_then ?_
      refine G_region ?_
      refine W_run 2 [(0, .slice p5174 ((s5312.2.2.set s5312.2.1.toNat (⟨s5312.1, y5332.Goal, y5332.Gave⟩ : Balloon)).set s5312.2.1.toNat (⟨y5346.Guest, w64 (s5312.1 + 1), y5346.Gave⟩ : Balloon)).length c5175), (1, .int .i64 (w64 ((w64 (s5312.1 + 1)) + 1))), (5, .int .i64 s5312.2.1), (26, .slice p5174 ((s5312.2.2.set s5312.2.1.toNat (⟨s5312.1, y5332.Goal, y5332.Gave⟩ : Balloon)).set s5312.2.1.toNat (⟨y5346.Guest, w64 (s5312.1 + 1), y5346.Gave⟩ : Balloon)).length c5175), (27, .int .i64 s5312.2.1)] w5354 (by kernel_rfl) ?_
      obtain ⟨y5360, hy5360, hm⟩ := gx_bind hm
      obtain ⟨zs5361, hz5362, hr5363, hi5364⟩ := id ho5358
      obtain ⟨g5365, hg5366⟩ := gxIdx_fst hz5362 hy5360
      refine W_val (elemP p5174 (s5312.2.1.toNat * 3)) w5354 (by kernel_rfl) (E_index (E := deepBalloon.E) _ _ _ ((s5312.2.2.set s5312.2.1.toNat (⟨s5312.1, y5332.Goal, y5332.Gave⟩ : Balloon)).set s5312.2.1.toNat (⟨y5346.Guest, w64 (s5312.1 + 1), y5346.Gave⟩ : Balloon)).length c5175 .i64 s5312.2.1 3 (y := (y5360, g5365)) rfl (by kernel_rfl) (by kernel_rfl) (by kernel_rfl) (hr5363.rd M5355 0 (by kernel_rfl)) (len_fst hz5362) hg5366) ?_
      refine W_val (elemP p5174 (s5312.2.1.toNat * 3 + 2)) w5354 (by kernel_rfl) (E_fieldE (E := deepBalloon.E) _ _ 2 (s5312.2.1.toNat * 3) 2 rfl (by kernel_rfl) (by kernel_rfl) (hr5363.rd M5355 0 (by kernel_rfl)) hg5366) ?_
      refine W_val (.slice ((g5365 0).1) y5360.Gave.length ((g5365 0).2)) w5354 (by kernel_rfl) (E_loadE (E := deepBalloon.E) _ _ false 1 s5312.2.1 2 (s5312.2.1.toNat * 3 + 2) (y5360, g5365) (.slice ((g5365 0).1) y5360.Gave.length ((g5365 0).2)) rfl (by kernel_rfl) (by kernel_rfl) (by kernel_rfl) (hr5363.rd M5355 0 (by kernel_rfl)) hg5366 rfl) ?_
      refine W_run 1 [(0, .slice p5174 ((s5312.2.2.set s5312.2.1.toNat (⟨s5312.1, y5332.Goal, y5332.Gave⟩ : Balloon)).set s5312.2.1.toNat (⟨y5346.Guest, w64 (s5312.1 + 1), y5346.Gave⟩ : Balloon)).length c5175), (1, .int .i64 (w64 ((w64 (s5312.1 + 1)) + 1))), (5, .int .i64 s5312.2.1), (30, .slice ((g5365 0).1) y5360.Gave.length ((g5365 0).2)), (31, .int .i64 (w64 ((w64 (s5312.1 + 1)) + 1)))] w5354 (by kernel_rfl) ?_
      obtain ⟨sa5369, sb5370, sc5371, hs5372, hb5373, hp5374⟩ := hi5364.lens (gxIdx_spec hg5366).2
      have M5375 := M5355.cut 1 (sa := sa5369) (sb := sb5370) (sc := sc5371) hs5372 (by kernel_rfl)
      obtain ⟨u5376, r5377, hu5378, ho5379, hr5380⟩ := hb5373
      have M5381 := M5375.cut 2 (sa := []) (sb := u5376) (sc := r5377) hu5378 (by kernel_rfl)
      obtain ⟨r5368, hr5368, hm⟩ := gx_bind hm
      refine W_call 24 #[.slice ((g5365 0).1) y5360.Gave.length ((g5365 0).2), .int .i64 (w64 ((w64 (s5312.1 + 1)) + 1))] (by kernel_rfl) (by kernel_rfl) ?_
      refine (c_l_markIntS w5354 y5360.Gave ((g5365 0).1) ((g5365 0).2) u5376 ho5379 (w64 ((w64 (s5312.1 + 1)) + 1)) (M5381.hasPick [4]) (M5381.nodupPick [4] (by kernel_rfl)) hr5368).mono ?_
      rintro e_ w5386 ⟨sg5383, rfl, ho5384, hl5385, K5387⟩
      have M5388 := M5381.callF' [4] [0, 1, 2, 3, 5] (by kernel_rfl) K5387
      refine ⟨_, rfl, ?_⟩
      refine W_conv 30 (.slice ((g5365 0).1) y5360.Gave.length ((g5365 0).2)) (.slice ((g5365 0).1) r5368.2.length ((g5365 0).2)) (by kernel_rfl) (by first | rw [hl5385] | rw [hl5385]) ?_
      have M5390 : Mem (idsOf [sg5176, sg5177]) w w5386 [sg5356, [], sa5369, sg5383, sc5371] := M5388.pick [0, 2, 1, 5, 3] (by kernel_rfl)
      have M5391 : Mem (idsOf [sg5176, sg5177]) w w5386 [sg5356, [], (sa5369 ++ ((sg5383 ++ []) ++ sc5371))] := M5390.regroup (by simp)
      have ho5392 : ownD deepBalloon (((s5312.2.2.set s5312.2.1.toNat (⟨s5312.1, y5332.Goal, y5332.Gave⟩ : Balloon)).set s5312.2.1.toNat (⟨y5346.Guest, w64 (s5312.1 + 1), y5346.Gave⟩ : Balloon)).set s5312.2.1.toNat (⟨y5360.Guest, y5360.Goal, r5368.2⟩ : Balloon)) p5174 c5175 sg5356 (sa5369 ++ ((sg5383 ++ []) ++ sc5371)) := ⟨_, set_fst hz5362 s5312.2.1.toNat ((⟨y5360.Guest, y5360.Goal, r5368.2⟩ : Balloon), g5365), (hr5363.setSame (z' := ((⟨y5360.Guest, y5360.Goal, r5368.2⟩ : Balloon), g5365)) (gxIdx_spec hg5366).2 (by show ([.int .i64 y5360.Guest, .int .i64 y5360.Goal, .slice ((g5365 0).1) r5368.2.length ((g5365 0).2)] : List Value) = [.int .i64 y5360.Guest, .int .i64 y5360.Goal, .slice ((g5365 0).1) y5360.Gave.length ((g5365 0).2)]; rw [hl5385])), hp5374 ((⟨y5360.Guest, y5360.Goal, r5368.2⟩ : Balloon), g5365) _ (ownI_cons (i := ⟨Int, Gx.encI, _, _, _⟩) ho5384 ownI_nil)⟩
      have hput5393 := gxIdx_put (⟨y5360.Guest, y5360.Goal, r5368.2⟩ : Balloon) (gxIdx_down hz5362 hg5366)
      refine W_conv 0 (.slice p5174 ((s5312.2.2.set s5312.2.1.toNat (⟨s5312.1, y5332.Goal, y5332.Gave⟩ : Balloon)).set s5312.2.1.toNat (⟨y5346.Guest, w64 (s5312.1 + 1), y5346.Gave⟩ : Balloon)).length c5175) (.slice p5174 (((s5312.2.2.set s5312.2.1.toNat (⟨s5312.1, y5332.Goal, y5332.Gave⟩ : Balloon)).set s5312.2.1.toNat (⟨y5346.Guest, w64 (s5312.1 + 1), y5346.Gave⟩ : Balloon)).set s5312.2.1.toNat (⟨y5360.Guest, y5360.Goal, r5368.2⟩ : Balloon)).length c5175) (by kernel_rfl) (by rw [@List.length_set _ ((s5312.2.2.set s5312.2.1.toNat (⟨s5312.1, y5332.Goal, y5332.Gave⟩ : Balloon)).set s5312.2.1.toNat (⟨y5346.Guest, w64 (s5312.1 + 1), y5346.Gave⟩ : Balloon)) s5312.2.1.toNat (⟨y5360.Guest, y5360.Goal, r5368.2⟩ : Balloon)]) ?_
      refine W_run 1 [(0, .slice p5174 (((s5312.2.2.set s5312.2.1.toNat (⟨s5312.1, y5332.Goal, y5332.Gave⟩ : Balloon)).set s5312.2.1.toNat (⟨y5346.Guest, w64 (s5312.1 + 1), y5346.Gave⟩ : Balloon)).set s5312.2.1.toNat (⟨y5360.Guest, y5360.Goal, r5368.2⟩ : Balloon)).length c5175), (1, .int .i64 r5368.1), (5, .int .i64 s5312.2.1)] w5386 (by kernel_rfl) ?_
      refine W_nil ?_
      refine N_block ?_
      refine N_then ?_
      refine G_region ?_
      refine W_run 3 [(0, .slice p5174 (((s5312.2.2.set s5312.2.1.toNat (⟨s5312.1, y5332.Goal, y5332.Gave⟩ : Balloon)).set s5312.2.1.toNat (⟨y5346.Guest, w64 (s5312.1 + 1), y5346.Gave⟩ : Balloon)).set s5312.2.1.toNat (⟨y5360.Guest, y5360.Goal, r5368.2⟩ : Balloon)).length c5175), (1, .int .i64 r5368.1), (5, .int .i64 (w64 (s5312.2.1 + 1)))] w5386 (by kernel_rfl) ?_
      refine W_nil ?_
      obtain rfl := Option.some.inj hm
      exact N_loop fun a ha => ⟨_, rfl, sg5356, (sa5369 ++ ((sg5383 ++ []) ++ sc5371)), ho5392, (List.length_set.trans (List.length_set.trans (List.length_set.trans hl5325))), M5391.pick [0, 2] (by kernel_rfl), ha.sub (by kernel_rfl)⟩
    refine G_cond_f (b := (decide (s5312.2.1 < (s5312.2.2.length : Int)))) hc5331 (by kernel_rfl) ?_
    refine G_exit ?_
    refine N_then_exit ?_
    refine N_then_exit ?_
    refine N_block_eq ?_
    obtain rfl := Option.some.inj hm
    obtain rfl := hout5314 _ rfl
    exact N_meet fun a ha => ⟨sg5322, sg5323, ho5324, hl5325, M5317.pick [0, 1] (by kernel_rfl), ha.sub (by kernel_rfl)⟩
  intro a5394 w5395 ⟨sg5327, sg5328, ho5329, hl5330, M5396, hS5397⟩
  refine N_use hS5397 ?_
  have hm := hmo5321
  refine N_then ?_
  refine G_seq ?_
  refine G_region ?_
  refine W_run 2 [(4, .int .i64 out5319.1)] w5395 (by kernel_rfl) ?_
  refine W_nil ?_
  refine N_then ?_
  refine G_ret ?_
  obtain rfl := Option.some.inj hm
  refine N_ret [.int .i64 out5319.1] (RVs_cons (RV_tmp (by kernel_rfl)) RVs_nil) ?_
  exact ⟨sg5327, sg5328, rfl, ho5329, hl5330, M5396.pick [0, 1] (by kernel_rfl)⟩
theorem c_l_heldIntS (w : World) (x5453 : List Int) (p5455 : Option Addr) (c5456 : Nat) (h5457 : rdS Gx.encI w x5453 p5455 c5456) (x5458 : Int) {r : Int} (hm : M.l_heldIntS x5453 x5458 = some r) :
    Calls Try.prog 29 #[.slice p5455 x5453.length c5456, .int .i64 x5458] w fun e w' => e = .returned (.int .i64 r) ∧ Mem [] w w' [] := by
  unfold M.l_heldIntS at hm
  refine C_enter Try.func29 rfl (by kernel_rfl) ?_
  have M0 := Mem.refl [] w
  refine G_seq ?_
  refine G_region ?_
  refine W_run 1 [(0, .slice p5455 x5453.length c5456), (1, .int .i64 x5458)] w (by kernel_rfl) ?_
  refine W_nil ?_
  refine N_then ?_
  refine G_seq ?_
  refine G_seq ?_
  refine G_region ?_
  refine W_run 1 [(0, .slice p5455 x5453.length c5456), (1, .int .i64 x5458), (5, .int .i64 0)] w (by kernel_rfl) ?_
  refine W_nil ?_
  refine N_then ?_
  obtain ⟨out5472, hw5473, hmo5474⟩ := gx_bind hm
  refine G_meet (fun a w' => ∃ (o5475 : Int), out5472 = .inl o5475 ∧ Mem [] w w' [] ∧ Sat Try.f29.ntmps [(1, .int .i64 o5475)] a) ?_ ?_
  · refine G_block ?_
    refine G_while (σ := Int × Int) (ρ := (Int) ⊕ (Int)) (fun s5465 a w' => Mem [] w w' [] ∧ Sat Try.f29.ntmps [(0, .slice p5455 x5453.length c5456), (1, .int .i64 s5465.1), (5, .int .i64 s5465.2)] a) hw5473 (fun a ha => ⟨M0.pick [] (by kernel_rfl), ha.sub (by kernel_rfl)⟩) ?_
    clear hm
    intro s5465 x5466 hm hout5467 a5468 w5469 ⟨M5470, hS5471⟩
    refine G_use hS5471 ?_
    refine G_seq ?_
    refine G_seq ?_
    refine G_region ?_
    refine W_run 4 [(0, .slice p5455 x5453.length c5456), (1, .int .i64 s5465.1), (5, .int .i64 s5465.2), (9, .bool (decide (s5465.2 < (x5453.length : Int))))] w5469 (by kernel_rfl) ?_
    refine W_nil ?_
    refine N_then ?_
    rcases gx_bif hm with ⟨hc5476, hm⟩ | ⟨hc5476, hm⟩
    · refine G_cond_t (b := (decide (s5465.2 < (x5453.length : Int)))) hc5476 (by kernel_rfl) ?_
      refine G_skip ?_
      refine N_then ?_
      refine G_seq ?_
      refine G_block ?_
      refine G_seq ?_
      refine G_seq ?_
      refine G_region ?_
      refine W_run 2 [(0, .slice p5455 x5453.length c5456), (1, .int .i64 s5465.1), (5, .int .i64 s5465.2), (12, .slice p5455 x5453.length c5456), (13, .int .i64 s5465.2)] w5469 (by kernel_rfl) ?_
      obtain ⟨y5477, hy5477, hm⟩ := gx_bind hm
      refine W_val (elemP p5455 (s5465.2.toNat * 1)) w5469 (by kernel_rfl) (E_index (E := Gx.encI) _ _ _ x5453.length c5456 .i64 s5465.2 1 (y := y5477) rfl (by kernel_rfl) (by kernel_rfl) (by kernel_rfl) (h5457.mem0 M5470) rfl hy5477) ?_
      refine W_val (.int .i64 y5477) w5469 (by kernel_rfl) (E_loadE (E := Gx.encI) _ _ false 1 s5465.2 0 (s5465.2.toNat * 1) y5477 (.int .i64 y5477) rfl (by kernel_rfl) (by kernel_rfl) (by kernel_rfl) (h5457.mem0 M5470) hy5477 rfl) ?_
      refine W_run 2 [(0, .slice p5455 x5453.length c5456), (1, .int .i64 s5465.1), (5, .int .i64 s5465.2), (17, .bool (y5477 != s5465.1))] w5469 (by kernel_rfl) ?_
      refine W_nil ?_
      refine N_then ?_
      rcases gx_bif hm with ⟨hc5478, hm⟩ | ⟨hc5478, hm⟩
      · refine G_cond_t (b := (y5477 != s5465.1)) hc5478 (by kernel_rfl) ?_
        refine G_seq ?_
        refine G_region ?_
        refine W_run 1 [(4, .int .i64 (-1))] w5469 (by kernel_rfl) ?_
        refine W_nil ?_
        refine N_then ?_
        refine G_ret ?_
        refine N_then_ret ?_
        refine N_block_ret ?_
        refine N_then_ret ?_
        refine N_then_ret ?_
        obtain rfl := Option.some.inj hm
        obtain rfl := hout5467 _ rfl
        have hm := hmo5474; simp only [Sum.elim_inr] at hm
        refine N_block_ret ?_
        refine N_meet_ret ?_
        refine N_then_ret ?_
        obtain rfl := Option.some.inj hm
        refine N_ret [.int .i64 (-1)] (RVs_cons (RV_tmp (by kernel_rfl)) RVs_nil) ?_
        exact ⟨rfl, M5470.pick [] (by kernel_rfl)⟩
      refine G_cond_f (b := (y5477 != s5465.1)) hc5478 (by kernel_rfl) ?_
      refine G_skip ?_
      refine N_then ?_
      refine G_region ?_
      refine W_run 3 [(0, .slice p5455 x5453.length c5456), (1, .int .i64 (w64 (s5465.1 + 1))), (5, .int .i64 s5465.2)] w5469 (by kernel_rfl) ?_
      refine W_nil ?_
      refine N_block ?_
      refine N_then ?_
      refine G_region ?_
      refine W_run 3 [(0, .slice p5455 x5453.length c5456), (1, .int .i64 (w64 (s5465.1 + 1))), (5, .int .i64 (w64 (s5465.2 + 1)))] w5469 (by kernel_rfl) ?_
      refine W_nil ?_
      obtain rfl := Option.some.inj hm
      exact N_loop fun a ha => ⟨_, rfl, M5470.pick [] (by kernel_rfl), ha.sub (by kernel_rfl)⟩
    refine G_cond_f (b := (decide (s5465.2 < (x5453.length : Int)))) hc5476 (by kernel_rfl) ?_
    refine G_exit ?_
    refine N_then_exit ?_
    refine N_then_exit ?_
    refine N_block_eq ?_
    obtain rfl := Option.some.inj hm
    obtain rfl := hout5467 _ rfl
    exact N_meet fun a ha => ⟨_, rfl, M5470.pick [] (by kernel_rfl), ha.sub (by kernel_rfl)⟩
  intro a5479 w5480 ⟨o5475, hout_, M5481, hS5482⟩
  refine N_use hS5482 ?_
  subst hout_
  have hm := hmo5474; simp only [Sum.elim_inl] at hm
  refine N_then ?_
  refine G_seq ?_
  refine G_region ?_
  refine W_run 2 [(4, .int .i64 o5475)] w5480 (by kernel_rfl) ?_
  refine W_nil ?_
  refine N_then ?_
  refine G_ret ?_
  obtain rfl := Option.some.inj hm
  refine N_ret [.int .i64 o5475] (RVs_cons (RV_tmp (by kernel_rfl)) RVs_nil) ?_
  exact ⟨rfl, M5481.pick [] (by kernel_rfl)⟩
theorem c_l_heldBalloonS (w : World) (x5488 : List Balloon) (p5490 : Option Addr) (c5491 : Nat) (h5492 : rdD deepBalloon w x5488 p5490 c5491) (x5493 : Int) {r : Int} (hm : M.l_heldBalloonS x5488 x5493 = some r) :
    Calls Try.prog 26 #[.slice p5490 x5488.length c5491, .int .i64 x5493] w fun e w' => e = .returned (.int .i64 r) ∧ Mem [] w w' [] := by
  unfold M.l_heldBalloonS at hm
  refine C_enter Try.func26 rfl (by kernel_rfl) ?_
  have M0 := Mem.refl [] w
  refine G_seq ?_
  refine G_region ?_
  refine W_run 1 [(0, .slice p5490 x5488.length c5491), (1, .int .i64 x5493)] w (by kernel_rfl) ?_
  refine W_nil ?_
  refine N_then ?_
  refine G_seq ?_
  refine G_seq ?_
  refine G_region ?_
  refine W_run 1 [(0, .slice p5490 x5488.length c5491), (1, .int .i64 x5493), (5, .int .i64 0)] w (by kernel_rfl) ?_
  refine W_nil ?_
  refine N_then ?_
  obtain ⟨out5549, hw5550, hmo5551⟩ := gx_bind hm
  refine G_meet (fun a w' => ∃ (o5552 : Int), out5549 = .inl o5552 ∧ Mem [] w w' [] ∧ Sat Try.f26.ntmps [(1, .int .i64 o5552)] a) ?_ ?_
  · refine G_block ?_
    refine G_while (σ := Int × Int) (ρ := (Int) ⊕ (Int)) (fun s5542 a w' => Mem [] w w' [] ∧ Sat Try.f26.ntmps [(0, .slice p5490 x5488.length c5491), (1, .int .i64 s5542.1), (5, .int .i64 s5542.2)] a) hw5550 (fun a ha => ⟨M0.pick [] (by kernel_rfl), ha.sub (by kernel_rfl)⟩) ?_
    clear hm
    intro s5542 x5543 hm hout5544 a5545 w5546 ⟨M5547, hS5548⟩
    refine G_use hS5548 ?_
    refine G_seq ?_
    refine G_seq ?_
    refine G_region ?_
    refine W_run 4 [(0, .slice p5490 x5488.length c5491), (1, .int .i64 s5542.1), (5, .int .i64 s5542.2), (9, .bool (decide (s5542.2 < (x5488.length : Int))))] w5546 (by kernel_rfl) ?_
    refine W_nil ?_
    refine N_then ?_
    rcases gx_bif hm with ⟨hc5553, hm⟩ | ⟨hc5553, hm⟩
    · refine G_cond_t (b := (decide (s5542.2 < (x5488.length : Int)))) hc5553 (by kernel_rfl) ?_
      refine G_skip ?_
      refine N_then ?_
      refine G_seq ?_
      refine G_block ?_
      refine G_seq ?_
      refine G_seq ?_
      refine G_region ?_
      refine W_run 2 [(0, .slice p5490 x5488.length c5491), (1, .int .i64 s5542.1), (5, .int .i64 s5542.2), (12, .slice p5490 x5488.length c5491), (13, .int .i64 s5542.2)] w5546 (by kernel_rfl) ?_
      obtain ⟨y5554, hy5554, hm⟩ := gx_bind hm
      obtain ⟨zs5555, hz5556, hr5557, hi5558⟩ := id h5492
      obtain ⟨g5559, hg5560⟩ := gxIdx_fst hz5556 hy5554
      refine W_val (elemP p5490 (s5542.2.toNat * 3)) w5546 (by kernel_rfl) (E_index (E := deepBalloon.E) _ _ _ x5488.length c5491 .i64 s5542.2 3 (y := (y5554, g5559)) rfl (by kernel_rfl) (by kernel_rfl) (by kernel_rfl) (hr5557.mem0 M5547) (len_fst hz5556) hg5560) ?_
      refine W_val (elemP p5490 (s5542.2.toNat * 3 + 0)) w5546 (by kernel_rfl) (E_fieldE (E := deepBalloon.E) _ _ 0 (s5542.2.toNat * 3) 0 rfl (by kernel_rfl) (by kernel_rfl) (hr5557.mem0 M5547) hg5560) ?_
      refine W_val (.int .i64 y5554.Guest) w5546 (by kernel_rfl) (E_loadE (E := deepBalloon.E) _ _ false 1 s5542.2 0 (s5542.2.toNat * 3 + 0) (y5554, g5559) (.int .i64 y5554.Guest) rfl (by kernel_rfl) (by kernel_rfl) (by kernel_rfl) (hr5557.mem0 M5547) hg5560 rfl) ?_
      refine W_run 2 [(0, .slice p5490 x5488.length c5491), (1, .int .i64 s5542.1), (5, .int .i64 s5542.2), (18, .bool (y5554.Guest != s5542.1))] w5546 (by kernel_rfl) ?_
      refine W_nil ?_
      refine N_then ?_
      rcases gx_bif hm with ⟨hc5562, hm⟩ | ⟨hc5562, hm⟩
      · refine G_cond_t (b := (y5554.Guest != s5542.1)) hc5562 (by kernel_rfl) ?_
        refine G_seq ?_
        refine G_region ?_
        refine W_run 1 [(4, .int .i64 (-1))] w5546 (by kernel_rfl) ?_
        refine W_nil ?_
        refine N_then ?_
        refine G_ret ?_
        refine N_then_ret ?_
        refine N_block_ret ?_
        refine N_then_ret ?_
        refine N_then_ret ?_
        obtain rfl := Option.some.inj hm
        obtain rfl := hout5544 _ rfl
        have hm := hmo5551; simp only [Sum.elim_inr] at hm
        refine N_block_ret ?_
        refine N_meet_ret ?_
        refine N_then_ret ?_
        obtain rfl := Option.some.inj hm
        refine N_ret [.int .i64 (-1)] (RVs_cons (RV_tmp (by kernel_rfl)) RVs_nil) ?_
        exact ⟨rfl, M5547.pick [] (by kernel_rfl)⟩
      refine G_cond_f (b := (y5554.Guest != s5542.1)) hc5562 (by kernel_rfl) ?_
      refine G_skip ?_
      refine N_then ?_
      refine G_seq ?_
      refine G_region ?_
      refine W_run 3 [(0, .slice p5490 x5488.length c5491), (1, .int .i64 (w64 (s5542.1 + 1))), (5, .int .i64 s5542.2)] w5546 (by kernel_rfl) ?_
      refine W_nil ?_
      refine N_then ?_
      refine G_seq ?_
      refine G_seq ?_
      refine G_region ?_
      refine W_run 2 [(0, .slice p5490 x5488.length c5491), (1, .int .i64 (w64 (s5542.1 + 1))), (5, .int .i64 s5542.2), (21, .slice p5490 x5488.length c5491), (22, .int .i64 s5542.2)] w5546 (by kernel_rfl) ?_
      obtain ⟨y5563, hy5563, hm⟩ := gx_bind hm
      obtain ⟨g5564, hg5565⟩ := gxIdx_fst hz5556 hy5563
      refine W_val (elemP p5490 (s5542.2.toNat * 3)) w5546 (by kernel_rfl) (E_index (E := deepBalloon.E) _ _ _ x5488.length c5491 .i64 s5542.2 3 (y := (y5563, g5564)) rfl (by kernel_rfl) (by kernel_rfl) (by kernel_rfl) (hr5557.mem0 M5547) (len_fst hz5556) hg5565) ?_
      refine W_val (elemP p5490 (s5542.2.toNat * 3 + 1)) w5546 (by kernel_rfl) (E_fieldE (E := deepBalloon.E) _ _ 1 (s5542.2.toNat * 3) 1 rfl (by kernel_rfl) (by kernel_rfl) (hr5557.mem0 M5547) hg5565) ?_
      refine W_val (.int .i64 y5563.Goal) w5546 (by kernel_rfl) (E_loadE (E := deepBalloon.E) _ _ false 1 s5542.2 1 (s5542.2.toNat * 3 + 1) (y5563, g5564) (.int .i64 y5563.Goal) rfl (by kernel_rfl) (by kernel_rfl) (by kernel_rfl) (hr5557.mem0 M5547) hg5565 rfl) ?_
      refine W_run 2 [(0, .slice p5490 x5488.length c5491), (1, .int .i64 (w64 (s5542.1 + 1))), (5, .int .i64 s5542.2), (27, .bool (y5563.Goal != (w64 (s5542.1 + 1))))] w5546 (by kernel_rfl) ?_
      refine W_nil ?_
      refine N_then ?_
      rcases gx_bif hm with ⟨hc5567, hm⟩ | ⟨hc5567, hm⟩
      · refine G_cond_t (b := (y5563.Goal != (w64 (s5542.1 + 1)))) hc5567 (by kernel_rfl) ?_
        refine G_seq ?_
        refine G_region ?_
        refine W_run 1 [(4, .int .i64 (-1))] w5546 (by kernel_rfl) ?_
        refine W_nil ?_
        refine N_then ?_
        refine G_ret ?_
        refine N_then_ret ?_
        refine N_block_ret ?_
        refine N_then_ret ?_
        refine N_then_ret ?_
        obtain rfl := Option.some.inj hm
        obtain rfl := hout5544 _ rfl
        have hm := hmo5551; simp only [Sum.elim_inr] at hm
        refine N_block_ret ?_
        refine N_meet_ret ?_
        refine N_then_ret ?_
        obtain rfl := Option.some.inj hm
        refine N_ret [.int .i64 (-1)] (RVs_cons (RV_tmp (by kernel_rfl)) RVs_nil) ?_
        exact ⟨rfl, M5547.pick [] (by kernel_rfl)⟩
      refine G_cond_f (b := (y5563.Goal != (w64 (s5542.1 + 1)))) hc5567 (by kernel_rfl) ?_
      refine G_skip ?_
      refine N_then ?_
      refine G_seq ?_
      refine G_region ?_
      refine W_run 3 [(0, .slice p5490 x5488.length c5491), (1, .int .i64 (w64 ((w64 (s5542.1 + 1)) + 1))), (5, .int .i64 s5542.2)] w5546 (by kernel_rfl) ?_
      refine W_nil ?_
      refine N_then ?_
      refine G_seq ?_
      refine G_region ?_
      refine W_run 2 [(0, .slice p5490 x5488.length c5491), (1, .int .i64 (w64 ((w64 (s5542.1 + 1)) + 1))), (5, .int .i64 s5542.2), (30, .slice p5490 x5488.length c5491), (31, .int .i64 s5542.2)] w5546 (by kernel_rfl) ?_
      obtain ⟨y5568, hy5568, hm⟩ := gx_bind hm
      obtain ⟨g5569, hg5570⟩ := gxIdx_fst hz5556 hy5568
      refine W_val (elemP p5490 (s5542.2.toNat * 3)) w5546 (by kernel_rfl) (E_index (E := deepBalloon.E) _ _ _ x5488.length c5491 .i64 s5542.2 3 (y := (y5568, g5569)) rfl (by kernel_rfl) (by kernel_rfl) (by kernel_rfl) (hr5557.mem0 M5547) (len_fst hz5556) hg5570) ?_
      refine W_val (elemP p5490 (s5542.2.toNat * 3 + 2)) w5546 (by kernel_rfl) (E_fieldE (E := deepBalloon.E) _ _ 2 (s5542.2.toNat * 3) 2 rfl (by kernel_rfl) (by kernel_rfl) (hr5557.mem0 M5547) hg5570) ?_
      refine W_val (.slice ((g5569 0).1) y5568.Gave.length ((g5569 0).2)) w5546 (by kernel_rfl) (E_loadE (E := deepBalloon.E) _ _ false 1 s5542.2 2 (s5542.2.toNat * 3 + 2) (y5568, g5569) (.slice ((g5569 0).1) y5568.Gave.length ((g5569 0).2)) rfl (by kernel_rfl) (by kernel_rfl) (by kernel_rfl) (hr5557.mem0 M5547) hg5570 rfl) ?_
      refine W_run 1 [(0, .slice p5490 x5488.length c5491), (1, .int .i64 (w64 ((w64 (s5542.1 + 1)) + 1))), (5, .int .i64 s5542.2), (34, .slice ((g5569 0).1) y5568.Gave.length ((g5569 0).2)), (35, .int .i64 (w64 ((w64 (s5542.1 + 1)) + 1)))] w5546 (by kernel_rfl) ?_
      obtain ⟨r5572, hr5572, hm⟩ := gx_bind hm
      refine W_call 29 #[.slice ((g5569 0).1) y5568.Gave.length ((g5569 0).2), .int .i64 (w64 ((w64 (s5542.1 + 1)) + 1))] (by kernel_rfl) (by kernel_rfl) ?_
      refine (c_l_heldIntS w5546 y5568.Gave ((g5569 0).1) ((g5569 0).2) ((hi5558.mem0 M5547).at_ hg5570 0 ⟨Int, Gx.encI, y5568.Gave, (g5569 0).1, (g5569 0).2⟩ (by kernel_rfl)) (w64 ((w64 (s5542.1 + 1)) + 1)) hr5572).mono ?_
      rintro e_ w5573 ⟨rfl, K5574⟩
      have M5575 := M5547.call0 K5574
      refine ⟨_, rfl, ?_⟩
      refine W_run 1 [(0, .slice p5490 x5488.length c5491), (1, .int .i64 r5572), (5, .int .i64 s5542.2)] w5573 (by kernel_rfl) ?_
      refine W_nil ?_
      refine N_then ?_
      refine G_seq ?_
      refine G_region ?_
      refine W_run 2 [(0, .slice p5490 x5488.length c5491), (1, .int .i64 r5572), (5, .int .i64 s5542.2), (38, .bool (decide (r5572 < 0)))] w5573 (by kernel_rfl) ?_
      refine W_nil ?_
      refine N_then ?_
      rcases gx_bif hm with ⟨hc5576, hm⟩ | ⟨hc5576, hm⟩
      · refine G_cond_t (b := (decide (r5572 < 0))) hc5576 (by kernel_rfl) ?_
        refine G_seq ?_
        refine G_region ?_
        refine W_run 1 [(4, .int .i64 (-1))] w5573 (by kernel_rfl) ?_
        refine W_nil ?_
        refine N_then ?_
        refine G_ret ?_
        refine N_block_ret ?_
        refine N_then_ret ?_
        refine N_then_ret ?_
        obtain rfl := Option.some.inj hm
        obtain rfl := hout5544 _ rfl
        have hm := hmo5551; simp only [Sum.elim_inr] at hm
        refine N_block_ret ?_
        refine N_meet_ret ?_
        refine N_then_ret ?_
        obtain rfl := Option.some.inj hm
        refine N_ret [.int .i64 (-1)] (RVs_cons (RV_tmp (by kernel_rfl)) RVs_nil) ?_
        exact ⟨rfl, M5575.pick [] (by kernel_rfl)⟩
      refine G_cond_f (b := (decide (r5572 < 0))) hc5576 (by kernel_rfl) ?_
      refine G_skip ?_
      refine N_block ?_
      refine N_then ?_
      refine G_region ?_
      refine W_run 3 [(0, .slice p5490 x5488.length c5491), (1, .int .i64 r5572), (5, .int .i64 (w64 (s5542.2 + 1)))] w5573 (by kernel_rfl) ?_
      refine W_nil ?_
      obtain rfl := Option.some.inj hm
      exact N_loop fun a ha => ⟨_, rfl, M5575.pick [] (by kernel_rfl), ha.sub (by kernel_rfl)⟩
    refine G_cond_f (b := (decide (s5542.2 < (x5488.length : Int)))) hc5553 (by kernel_rfl) ?_
    refine G_exit ?_
    refine N_then_exit ?_
    refine N_then_exit ?_
    refine N_block_eq ?_
    obtain rfl := Option.some.inj hm
    obtain rfl := hout5544 _ rfl
    exact N_meet fun a ha => ⟨_, rfl, M5547.pick [] (by kernel_rfl), ha.sub (by kernel_rfl)⟩
  intro a5577 w5578 ⟨o5552, hout_, M5579, hS5580⟩
  refine N_use hS5580 ?_
  subst hout_
  have hm := hmo5551; simp only [Sum.elim_inl] at hm
  refine N_then ?_
  refine G_seq ?_
  refine G_region ?_
  refine W_run 2 [(4, .int .i64 o5552)] w5578 (by kernel_rfl) ?_
  refine W_nil ?_
  refine N_then ?_
  refine G_ret ?_
  obtain rfl := Option.some.inj hm
  refine N_ret [.int .i64 o5552] (RVs_cons (RV_tmp (by kernel_rfl)) RVs_nil) ?_
  exact ⟨rfl, M5579.pick [] (by kernel_rfl)⟩
end Go.Proofs.Ytlfligjpmodefaa
