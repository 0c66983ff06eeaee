/- The walks, printed by program: whenever the model gives r, the call returns r. Part 1. -/
import Derived.Test.YtopnablbecepjaaM
import Derived.Test.YtopnablbecepjaaProg
set_option linter.unusedVariables false
set_option maxRecDepth 100000
set_option maxHeartbeats 4000000
namespace Go.Proofs.Ytopnablbecepjaa
open Go.Gx
theorem c_s_l1In (w : World) (x8 : Int) (x9 : Int) (x10 : Int) {r : Bool} (hm : M.s_l1In x8 x9 x10 = some r) :
    Calls Try.prog 77 #[.int .i64 x8, .int .i64 x9, .int .i64 x10] w fun e w' => e = .returned (.bool r) ∧ Mem [] w w' [] := by
  unfold M.s_l1In at hm
  refine C_enter Try.func77 rfl (by kernel_rfl) ?_
  have M0 := Mem.refl [] w
  refine G_seq ?_
  refine G_region ?_
  refine W_run 1 [(0, .int .i64 x8), (1, .int .i64 x9), (2, .int .i64 x10)] w (by kernel_rfl) ?_
  refine W_nil ?_
  refine N_then ?_
  refine G_seq ?_
  obtain ⟨o12, ho13, hm14⟩ := gx_bind hm
  refine G_meet (fun a w' => Mem [] w w' [] ∧ Sat Try.f77.ntmps [(6, .bool o12)] a) ?_ ?_
  · have hm := ho13
    refine G_region ?_
    refine W_run 4 [(0, .int .i64 x8), (2, .int .i64 x10), (10, .bool (decide (x8 ≥ x9)))] w (by kernel_rfl) ?_
    rcases gx_bif hm with ⟨hc15, hm⟩ | ⟨hc15, hm⟩
    · refine W_known 10 true (by kernel_rfl) hc15 ?_
      refine W_run 5 [(6, .bool (decide (x8 ≤ x10)))] w (by kernel_rfl) ?_
      refine W_nil ?_
      obtain rfl := Option.some.inj hm
      exact N_meet fun a ha => ⟨M0.pick [] (by kernel_rfl), ha.sub (by kernel_rfl)⟩
    · refine W_known 10 false (by kernel_rfl) hc15 ?_
      refine W_run 5 [(6, .bool false)] w (by kernel_rfl) ?_
      refine W_nil ?_
      obtain rfl := Option.some.inj hm
      exact N_meet fun a ha => ⟨M0.pick [] (by kernel_rfl), ha.sub (by kernel_rfl)⟩
  · intro a18 w16 ⟨M17, hS19⟩
    refine N_use hS19 ?_
    have hm := hm14
    refine N_then ?_
    refine G_ret ?_
    obtain rfl := Option.some.inj hm
    refine N_ret [.bool o12] (RVs_cons (RV_tmp (by kernel_rfl)) RVs_nil) ?_
    exact ⟨rfl, M17.pick [] (by kernel_rfl)⟩
theorem c_s_l2Word16 (w : World) (x7 : Int) {r : Bool} (hm : M.s_l2Word16 x7 = some r) :
    Calls Try.prog 52 #[.int .i64 x7] w fun e w' => e = .returned (.bool r) ∧ Mem [] w w' [] := by
  unfold M.s_l2Word16 at hm
  refine C_enter Try.func52 rfl (by kernel_rfl) ?_
  have M0 := Mem.refl [] w
  refine G_seq ?_
  refine G_region ?_
  refine W_run 1 [(0, .int .i64 x7)] w (by kernel_rfl) ?_
  refine W_nil ?_
  refine N_then ?_
  refine G_seq ?_
  refine G_region ?_
  refine W_run 1 [(3, .int .i64 x7)] w (by kernel_rfl) ?_
  obtain ⟨r20, hr20, hm⟩ := gx_bind hm
  refine W_call 77 #[.int .i64 x7, .int .i64 0, .int .i64 65535] (by kernel_rfl) (by kernel_rfl) ?_
  refine (c_s_l1In w x7 0 65535 hr20).mono ?_
  rintro e_ w21 ⟨rfl, K22⟩
  have M23 := M0.call0 K22
  refine ⟨_, rfl, ?_⟩
  refine W_run 1 [(2, .bool r20)] w21 (by kernel_rfl) ?_
  refine W_nil ?_
  refine N_then ?_
  refine G_ret ?_
  obtain rfl := Option.some.inj hm
  refine N_ret [.bool r20] (RVs_cons (RV_tmp (by kernel_rfl)) RVs_nil) ?_
  exact ⟨rfl, M23.pick [] (by kernel_rfl)⟩
theorem c_s_NeedsSignal (w : World) (x4 : Int) (x5 : Int) (x6 : Int) {r : Bool × Bool} (hm : M.s_NeedsSignal x4 x5 x6 = some r) :
    Calls Try.prog 14 #[.int .i64 x4, .int .i64 x5, .int .i64 x6] w fun e w' => e = .returned (.tuple #[.bool r.1, .bool r.2]) ∧ Mem [] w w' [] := by
  unfold M.s_NeedsSignal at hm
  refine C_enter Try.func14 rfl (by kernel_rfl) ?_
  have M0 := Mem.refl [] w
  refine G_seq ?_
  refine G_region ?_
  refine W_run 2 [(0, .int .i64 x4), (1, .int .i64 x5), (2, .int .i64 x6)] w (by kernel_rfl) ?_
  refine W_nil ?_
  refine N_then ?_
  refine G_seq ?_
  refine G_seq ?_
  obtain ⟨o38, ho39, hm40⟩ := gx_bind hm
  refine G_meet (fun a w' => Mem [] w w' [] ∧ Sat Try.f14.ntmps [(0, .int .i64 x4), (1, .int .i64 x5), (2, .int .i64 x6), (20, .bool o38)] a) ?_ ?_
  · have hm := ho39
    refine G_region ?_
    refine W_run 1 [(0, .int .i64 x4), (1, .int .i64 x5), (2, .int .i64 x6), (8, .int .i64 x4)] w (by kernel_rfl) ?_
    obtain ⟨r41, hr41, hm⟩ := gx_bind hm
    refine W_call 52 #[.int .i64 x4] (by kernel_rfl) (by kernel_rfl) ?_
    refine (c_s_l2Word16 w x4 hr41).mono ?_
    rintro e_ w42 ⟨rfl, K43⟩
    have M44 := M0.call0 K43
    refine ⟨_, rfl, ?_⟩
    refine W_run 2 [(0, .int .i64 x4), (1, .int .i64 x5), (2, .int .i64 x6), (11, .bool (!r41))] w42 (by kernel_rfl) ?_
    rcases gx_bif hm with ⟨hc45, hm⟩ | ⟨hc45, hm⟩
    · refine W_known 11 true (by kernel_rfl) hc45 ?_
      refine W_run 9 [(0, .int .i64 x4), (1, .int .i64 x5), (2, .int .i64 x6), (20, .bool true)] w42 (by kernel_rfl) ?_
      refine W_nil ?_
      obtain rfl := Option.some.inj hm
      exact N_meet fun a ha => ⟨M44.pick [] (by kernel_rfl), ha.sub (by kernel_rfl)⟩
    · refine W_known 11 false (by kernel_rfl) hc45 ?_
      refine W_run 1 [(0, .int .i64 x4), (1, .int .i64 x5), (2, .int .i64 x6), (11, .bool false), (12, .int .i64 x5)] w42 (by kernel_rfl) ?_
      obtain ⟨r46, hr46, hm⟩ := gx_bind hm
      refine W_call 52 #[.int .i64 x5] (by kernel_rfl) (by kernel_rfl) ?_
      refine (c_s_l2Word16 w42 x5 hr46).mono ?_
      rintro e_ w47 ⟨rfl, K48⟩
      have M49 := M44.call0 K48
      refine ⟨_, rfl, ?_⟩
      refine W_run 3 [(0, .int .i64 x4), (1, .int .i64 x5), (2, .int .i64 x6), (16, .bool (!r46))] w47 (by kernel_rfl) ?_
      rcases gx_bif hm with ⟨hc50, hm⟩ | ⟨hc50, hm⟩
      · refine W_known 16 true (by kernel_rfl) hc50 ?_
        refine W_run 4 [(0, .int .i64 x4), (1, .int .i64 x5), (2, .int .i64 x6), (20, .bool true)] w47 (by kernel_rfl) ?_
        refine W_nil ?_
        obtain rfl := Option.some.inj hm
        exact N_meet fun a ha => ⟨M49.pick [] (by kernel_rfl), ha.sub (by kernel_rfl)⟩
      · refine W_known 16 false (by kernel_rfl) hc50 ?_
        refine W_run 1 [(0, .int .i64 x4), (1, .int .i64 x5), (2, .int .i64 x6), (16, .bool false), (17, .int .i64 x6)] w47 (by kernel_rfl) ?_
        obtain ⟨r51, hr51, hm⟩ := gx_bind hm
        refine W_call 52 #[.int .i64 x6] (by kernel_rfl) (by kernel_rfl) ?_
        refine (c_s_l2Word16 w47 x6 hr51).mono ?_
        rintro e_ w52 ⟨rfl, K53⟩
        have M54 := M49.call0 K53
        refine ⟨_, rfl, ?_⟩
        refine W_run 2 [(0, .int .i64 x4), (1, .int .i64 x5), (2, .int .i64 x6), (20, .bool (!r51))] w52 (by kernel_rfl) ?_
        refine W_nil ?_
        obtain rfl := Option.some.inj hm
        exact N_meet fun a ha => ⟨M54.pick [] (by kernel_rfl), ha.sub (by kernel_rfl)⟩
  · intro a57 w55 ⟨M56, hS58⟩
    refine N_use hS58 ?_
    have hm := hm40
    refine N_then ?_
    rcases gx_bif hm with ⟨hc59, hm⟩ | ⟨hc59, hm⟩
    · refine G_cond_t (b := o38) hc59 (by kernel_rfl) ?_
      refine G_seq ?_
      refine G_region ?_
      refine W_run 2 [(6, .bool false), (7, .bool false)] w55 (by kernel_rfl) ?_
      refine W_nil ?_
      refine N_then ?_
      refine G_ret ?_
      refine N_then_ret ?_
      obtain rfl := Option.some.inj hm
      refine N_ret [.bool false, .bool false] (RVs_cons (RV_tmp (by kernel_rfl)) (RVs_cons (RV_tmp (by kernel_rfl)) RVs_nil)) ?_
      exact ⟨rfl, M56.pick [] (by kernel_rfl)⟩
    · refine G_cond_f (b := o38) hc59 (by kernel_rfl) ?_
      refine G_skip ?_
      refine N_then ?_
      refine G_seq ?_
      refine G_region ?_
      refine W_run 13 [(6, .bool (decide (((w64 ((w64 (x6 - x4)) + 65536)).tmod 65536) < ((w64 ((w64 (x5 - x4)) + 65536)).tmod 65536)))), (7, .bool true)] w55 (by kernel_rfl) ?_
      refine W_nil ?_
      refine N_then ?_
      refine G_ret ?_
      obtain rfl := Option.some.inj hm
      refine N_ret [.bool (decide (((w64 ((w64 (x6 - x4)) + 65536)).tmod 65536) < ((w64 ((w64 (x5 - x4)) + 65536)).tmod 65536))), .bool true] (RVs_cons (RV_tmp (by kernel_rfl)) (RVs_cons (RV_tmp (by kernel_rfl)) RVs_nil)) ?_
      exact ⟨rfl, M56.pick [] (by kernel_rfl)⟩
theorem c_i_inside (w : World) (x68 : Int) (x69 : Int) (x70 : Int) {r : Bool} (hm : M.i_inside x68 x69 x70 = some r) :
    Calls Try.prog 78 #[.int .i64 x68, .int .i64 x69, .int .i64 x70] w fun e w' => e = .returned (.bool r) ∧ Mem [] w w' [] := by
  unfold M.i_inside at hm
  refine C_enter Try.func78 rfl (by kernel_rfl) ?_
  have M0 := Mem.refl [] w
  refine G_seq ?_
  refine G_region ?_
  refine W_run 1 [(0, .int .i64 x68), (1, .int .i64 x69), (2, .int .i64 x70)] w (by kernel_rfl) ?_
  refine W_nil ?_
  refine N_then ?_
  refine G_seq ?_
  obtain ⟨o72, ho73, hm74⟩ := gx_bind hm
  refine G_meet (fun a w' => Mem [] w w' [] ∧ Sat Try.f78.ntmps [(6, .bool o72)] a) ?_ ?_
  · have hm := ho73
    refine G_region ?_
    refine W_run 4 [(0, .int .i64 x68), (2, .int .i64 x70), (10, .bool (decide (x68 ≥ x69)))] w (by kernel_rfl) ?_
    rcases gx_bif hm with ⟨hc75, hm⟩ | ⟨hc75, hm⟩
    · refine W_known 10 true (by kernel_rfl) hc75 ?_
      refine W_run 5 [(6, .bool (decide (x68 ≤ x70)))] w (by kernel_rfl) ?_
      refine W_nil ?_
      obtain rfl := Option.some.inj hm
      exact N_meet fun a ha => ⟨M0.pick [] (by kernel_rfl), ha.sub (by kernel_rfl)⟩
    · refine W_known 10 false (by kernel_rfl) hc75 ?_
      refine W_run 5 [(6, .bool false)] w (by kernel_rfl) ?_
      refine W_nil ?_
      obtain rfl := Option.some.inj hm
      exact N_meet fun a ha => ⟨M0.pick [] (by kernel_rfl), ha.sub (by kernel_rfl)⟩
  · intro a78 w76 ⟨M77, hS79⟩
    refine N_use hS79 ?_
    have hm := hm74
    refine N_then ?_
    refine G_ret ?_
    obtain rfl := Option.some.inj hm
    refine N_ret [.bool o72] (RVs_cons (RV_tmp (by kernel_rfl)) RVs_nil) ?_
    exact ⟨rfl, M77.pick [] (by kernel_rfl)⟩
theorem c_i_isWord16 (w : World) (x67 : Int) {r : Bool} (hm : M.i_isWord16 x67 = some r) :
    Calls Try.prog 53 #[.int .i64 x67] w fun e w' => e = .returned (.bool r) ∧ Mem [] w w' [] := by
  unfold M.i_isWord16 at hm
  refine C_enter Try.func53 rfl (by kernel_rfl) ?_
  have M0 := Mem.refl [] w
  refine G_seq ?_
  refine G_region ?_
  refine W_run 1 [(0, .int .i64 x67)] w (by kernel_rfl) ?_
  refine W_nil ?_
  refine N_then ?_
  refine G_seq ?_
  refine G_region ?_
  refine W_run 1 [(3, .int .i64 x67)] w (by kernel_rfl) ?_
  obtain ⟨r80, hr80, hm⟩ := gx_bind hm
  refine W_call 78 #[.int .i64 x67, .int .i64 0, .int .i64 65535] (by kernel_rfl) (by kernel_rfl) ?_
  refine (c_i_inside w x67 0 65535 hr80).mono ?_
  rintro e_ w81 ⟨rfl, K82⟩
  have M83 := M0.call0 K82
  refine ⟨_, rfl, ?_⟩
  refine W_run 1 [(2, .bool r80)] w81 (by kernel_rfl) ?_
  refine W_nil ?_
  refine N_then ?_
  refine G_ret ?_
  obtain rfl := Option.some.inj hm
  refine N_ret [.bool r80] (RVs_cons (RV_tmp (by kernel_rfl)) RVs_nil) ?_
  exact ⟨rfl, M83.pick [] (by kernel_rfl)⟩
theorem c_i_stepsTo (w : World) (x120 : Int) (x121 : Int) {r : Int} (hm : M.i_stepsTo x120 x121 = some r) :
    Calls Try.prog 54 #[.int .i64 x120, .int .i64 x121] w fun e w' => e = .returned (.int .i64 r) ∧ Mem [] w w' [] := by
  unfold M.i_stepsTo at hm
  refine C_enter Try.func54 rfl (by kernel_rfl) ?_
  have M0 := Mem.refl [] w
  refine G_seq ?_
  refine G_region ?_
  refine W_run 1 [(0, .int .i64 x120), (1, .int .i64 x121)] w (by kernel_rfl) ?_
  refine W_nil ?_
  refine N_then ?_
  refine G_seq ?_
  refine G_region ?_
  refine W_run 5 [(4, .int .i64 (gxAnd .i64 (w64 (x121 - x120)) 65535))] w (by kernel_rfl) ?_
  refine W_nil ?_
  refine N_then ?_
  refine G_ret ?_
  obtain rfl := Option.some.inj hm
  refine N_ret [.int .i64 (gxAnd .i64 (w64 (x121 - x120)) 65535)] (RVs_cons (RV_tmp (by kernel_rfl)) RVs_nil) ?_
  exact ⟨rfl, M0.pick [] (by kernel_rfl)⟩
theorem c_i_NeedsSignal (w : World) (x64 : Int) (x65 : Int) (x66 : Int) {r : Bool × Bool} (hm : M.i_NeedsSignal x64 x65 x66 = some r) :
    Calls Try.prog 15 #[.int .i64 x64, .int .i64 x65, .int .i64 x66] w fun e w' => e = .returned (.tuple #[.bool r.1, .bool r.2]) ∧ Mem [] w w' [] := by
  unfold M.i_NeedsSignal at hm
  refine C_enter Try.func15 rfl (by kernel_rfl) ?_
  have M0 := Mem.refl [] w
  refine G_seq ?_
  refine G_region ?_
  refine W_run 2 [(0, .int .i64 x64), (1, .int .i64 x65), (2, .int .i64 x66)] w (by kernel_rfl) ?_
  refine W_nil ?_
  refine N_then ?_
  refine G_seq ?_
  refine G_seq ?_
  obtain ⟨o98, ho99, hm100⟩ := gx_bind hm
  refine G_meet (fun a w' => Mem [] w w' [] ∧ Sat Try.f15.ntmps [(0, .int .i64 x64), (1, .int .i64 x65), (2, .int .i64 x66), (20, .bool o98)] a) ?_ ?_
  · have hm := ho99
    refine G_region ?_
    refine W_run 1 [(0, .int .i64 x64), (1, .int .i64 x65), (2, .int .i64 x66), (8, .int .i64 x64)] w (by kernel_rfl) ?_
    obtain ⟨r101, hr101, hm⟩ := gx_bind hm
    refine W_call 53 #[.int .i64 x64] (by kernel_rfl) (by kernel_rfl) ?_
    refine (c_i_isWord16 w x64 hr101).mono ?_
    rintro e_ w102 ⟨rfl, K103⟩
    have M104 := M0.call0 K103
    refine ⟨_, rfl, ?_⟩
    refine W_run 2 [(0, .int .i64 x64), (1, .int .i64 x65), (2, .int .i64 x66), (11, .bool (!r101))] w102 (by kernel_rfl) ?_
    rcases gx_bif hm with ⟨hc105, hm⟩ | ⟨hc105, hm⟩
    · refine W_known 11 true (by kernel_rfl) hc105 ?_
      refine W_run 9 [(0, .int .i64 x64), (1, .int .i64 x65), (2, .int .i64 x66), (20, .bool true)] w102 (by kernel_rfl) ?_
      refine W_nil ?_
      obtain rfl := Option.some.inj hm
      exact N_meet fun a ha => ⟨M104.pick [] (by kernel_rfl), ha.sub (by kernel_rfl)⟩
    · refine W_known 11 false (by kernel_rfl) hc105 ?_
      refine W_run 1 [(0, .int .i64 x64), (1, .int .i64 x65), (2, .int .i64 x66), (11, .bool false), (12, .int .i64 x65)] w102 (by kernel_rfl) ?_
      obtain ⟨r106, hr106, hm⟩ := gx_bind hm
      refine W_call 53 #[.int .i64 x65] (by kernel_rfl) (by kernel_rfl) ?_
      refine (c_i_isWord16 w102 x65 hr106).mono ?_
      rintro e_ w107 ⟨rfl, K108⟩
      have M109 := M104.call0 K108
      refine ⟨_, rfl, ?_⟩
      refine W_run 3 [(0, .int .i64 x64), (1, .int .i64 x65), (2, .int .i64 x66), (16, .bool (!r106))] w107 (by kernel_rfl) ?_
      rcases gx_bif hm with ⟨hc110, hm⟩ | ⟨hc110, hm⟩
      · refine W_known 16 true (by kernel_rfl) hc110 ?_
        refine W_run 4 [(0, .int .i64 x64), (1, .int .i64 x65), (2, .int .i64 x66), (20, .bool true)] w107 (by kernel_rfl) ?_
        refine W_nil ?_
        obtain rfl := Option.some.inj hm
        exact N_meet fun a ha => ⟨M109.pick [] (by kernel_rfl), ha.sub (by kernel_rfl)⟩
      · refine W_known 16 false (by kernel_rfl) hc110 ?_
        refine W_run 1 [(0, .int .i64 x64), (1, .int .i64 x65), (2, .int .i64 x66), (16, .bool false), (17, .int .i64 x66)] w107 (by kernel_rfl) ?_
        obtain ⟨r111, hr111, hm⟩ := gx_bind hm
        refine W_call 53 #[.int .i64 x66] (by kernel_rfl) (by kernel_rfl) ?_
        refine (c_i_isWord16 w107 x66 hr111).mono ?_
        rintro e_ w112 ⟨rfl, K113⟩
        have M114 := M109.call0 K113
        refine ⟨_, rfl, ?_⟩
        refine W_run 2 [(0, .int .i64 x64), (1, .int .i64 x65), (2, .int .i64 x66), (20, .bool (!r111))] w112 (by kernel_rfl) ?_
        refine W_nil ?_
        obtain rfl := Option.some.inj hm
        exact N_meet fun a ha => ⟨M114.pick [] (by kernel_rfl), ha.sub (by kernel_rfl)⟩
  · intro a117 w115 ⟨M116, hS118⟩
    refine N_use hS118 ?_
    have hm := hm100
    refine N_then ?_
    rcases gx_bif hm with ⟨hc119, hm⟩ | ⟨hc119, hm⟩
    · refine G_cond_t (b := o98) hc119 (by kernel_rfl) ?_
      refine G_seq ?_
      refine G_region ?_
      refine W_run 2 [(6, .bool false), (7, .bool false)] w115 (by kernel_rfl) ?_
      refine W_nil ?_
      refine N_then ?_
      refine G_ret ?_
      refine N_then_ret ?_
      obtain rfl := Option.some.inj hm
      refine N_ret [.bool false, .bool false] (RVs_cons (RV_tmp (by kernel_rfl)) (RVs_cons (RV_tmp (by kernel_rfl)) RVs_nil)) ?_
      exact ⟨rfl, M116.pick [] (by kernel_rfl)⟩
    · refine G_cond_f (b := o98) hc119 (by kernel_rfl) ?_
      refine G_skip ?_
      refine N_then ?_
      refine G_seq ?_
      refine G_region ?_
      refine W_run 2 [(0, .int .i64 x64), (1, .int .i64 x65), (21, .int .i64 x64), (22, .int .i64 x66)] w115 (by kernel_rfl) ?_
      obtain ⟨r122, hr122, hm⟩ := gx_bind hm
      refine W_call 54 #[.int .i64 x64, .int .i64 x66] (by kernel_rfl) (by kernel_rfl) ?_
      refine (c_i_stepsTo w115 x64 x66 hr122).mono ?_
      rintro e_ w123 ⟨rfl, K124⟩
      have M125 := M116.call0 K124
      refine ⟨_, rfl, ?_⟩
      refine W_run 2 [(23, .int .i64 r122), (24, .int .i64 x64), (25, .int .i64 x65)] w123 (by kernel_rfl) ?_
      obtain ⟨r126, hr126, hm⟩ := gx_bind hm
      refine W_call 54 #[.int .i64 x64, .int .i64 x65] (by kernel_rfl) (by kernel_rfl) ?_
      refine (c_i_stepsTo w123 x64 x65 hr126).mono ?_
      rintro e_ w127 ⟨rfl, K128⟩
      have M129 := M125.call0 K128
      refine ⟨_, rfl, ?_⟩
      refine W_run 3 [(6, .bool (decide (r122 < r126))), (7, .bool true)] w127 (by kernel_rfl) ?_
      refine W_nil ?_
      refine N_then ?_
      refine G_ret ?_
      obtain rfl := Option.some.inj hm
      refine N_ret [.bool (decide (r122 < r126)), .bool true] (RVs_cons (RV_tmp (by kernel_rfl)) (RVs_cons (RV_tmp (by kernel_rfl)) RVs_nil)) ?_
      exact ⟨rfl, M129.pick [] (by kernel_rfl)⟩
theorem c_l_FnExactNeedsSignal (w : World) (x1 : Int) (x2 : Int) (x3 : Int) {r : Bool} (hm : M.l_FnExactNeedsSignal x1 x2 x3 = some r) :
    Calls Try.prog 3 #[.int .i64 x1, .int .i64 x2, .int .i64 x3] w fun e w' => e = .returned (.bool r) ∧ Mem [] w w' [] := by
  unfold M.l_FnExactNeedsSignal at hm
  refine C_enter Try.func3 rfl (by kernel_rfl) ?_
  have M0 := Mem.refl [] w
  refine G_seq ?_
  refine G_region ?_
  refine W_run 1 [(0, .int .i64 x1), (1, .int .i64 x2), (2, .int .i64 x3)] w (by kernel_rfl) ?_
  refine W_nil ?_
  refine N_then ?_
  refine G_seq ?_
  refine G_region ?_
  refine W_run 3 [(0, .int .i64 x1), (1, .int .i64 x2), (2, .int .i64 x3), (12, .int .i64 x1), (13, .int .i64 x2), (14, .int .i64 x3)] w (by kernel_rfl) ?_
  obtain ⟨r60, hr60, hm⟩ := gx_bind hm
  refine W_call 14 #[.int .i64 x1, .int .i64 x2, .int .i64 x3] (by kernel_rfl) (by kernel_rfl) ?_
  refine (c_s_NeedsSignal w x1 x2 x3 hr60).mono ?_
  rintro e_ w61 ⟨rfl, K62⟩
  have M63 := M0.call0 K62
  refine ⟨_, rfl, ?_⟩
  refine W_run 5 [(0, .int .i64 x1), (1, .int .i64 x2), (2, .int .i64 x3), (7, .bool r60.1), (8, .bool r60.2)] w61 (by kernel_rfl) ?_
  refine W_nil ?_
  refine N_then ?_
  refine G_seq ?_
  refine G_region ?_
  refine W_run 3 [(7, .bool r60.1), (8, .bool r60.2), (19, .int .i64 x1), (20, .int .i64 x2), (21, .int .i64 x3)] w61 (by kernel_rfl) ?_
  obtain ⟨r130, hr130, hm⟩ := gx_bind hm
  refine W_call 15 #[.int .i64 x1, .int .i64 x2, .int .i64 x3] (by kernel_rfl) (by kernel_rfl) ?_
  refine (c_i_NeedsSignal w61 x1 x2 x3 hr130).mono ?_
  rintro e_ w131 ⟨rfl, K132⟩
  have M133 := M63.call0 K132
  refine ⟨_, rfl, ?_⟩
  refine W_run 5 [(7, .bool r60.1), (8, .bool r60.2), (9, .bool r130.1), (10, .bool r130.2)] w131 (by kernel_rfl) ?_
  refine W_nil ?_
  refine N_then ?_
  refine G_seq ?_
  refine G_seq ?_
  obtain ⟨o135, ho136, hm137⟩ := gx_bind hm
  refine G_meet (fun a w' => Mem [] w w' [] ∧ Sat Try.f3.ntmps [(32, .bool o135)] a) ?_ ?_
  · have hm := ho136
    refine G_region ?_
    refine W_run 4 [(8, .bool r60.2), (10, .bool r130.2), (28, .bool (!(r130.1 == r60.1)))] w131 (by kernel_rfl) ?_
    rcases gx_bif hm with ⟨hc138, hm⟩ | ⟨hc138, hm⟩
    · refine W_known 28 true (by kernel_rfl) hc138 ?_
      refine W_run 4 [(32, .bool true)] w131 (by kernel_rfl) ?_
      refine W_nil ?_
      obtain rfl := Option.some.inj hm
      exact N_meet fun a ha => ⟨M133.pick [] (by kernel_rfl), ha.sub (by kernel_rfl)⟩
    · refine W_known 28 false (by kernel_rfl) hc138 ?_
      refine W_run 4 [(32, .bool (!(r130.2 == r60.2)))] w131 (by kernel_rfl) ?_
      refine W_nil ?_
      obtain rfl := Option.some.inj hm
      exact N_meet fun a ha => ⟨M133.pick [] (by kernel_rfl), ha.sub (by kernel_rfl)⟩
  · intro a141 w139 ⟨M140, hS142⟩
    refine N_use hS142 ?_
    have hm := hm137
    refine N_then ?_
    rcases gx_bif hm with ⟨hc143, hm⟩ | ⟨hc143, hm⟩
    · refine G_cond_t (b := o135) hc143 (by kernel_rfl) ?_
      refine G_seq ?_
      refine G_region ?_
      refine W_run 1 [(6, .bool false)] w139 (by kernel_rfl) ?_
      refine W_nil ?_
      refine N_then ?_
      refine G_ret ?_
      refine N_then_ret ?_
      obtain rfl := Option.some.inj hm
      refine N_ret [.bool false] (RVs_cons (RV_tmp (by kernel_rfl)) RVs_nil) ?_
      exact ⟨rfl, M140.pick [] (by kernel_rfl)⟩
    · refine G_cond_f (b := o135) hc143 (by kernel_rfl) ?_
      refine G_skip ?_
      refine N_then ?_
      refine G_seq ?_
      refine G_region ?_
      refine W_run 1 [(6, .bool true)] w139 (by kernel_rfl) ?_
      refine W_nil ?_
      refine N_then ?_
      refine G_ret ?_
      obtain rfl := Option.some.inj hm
      refine N_ret [.bool true] (RVs_cons (RV_tmp (by kernel_rfl)) RVs_nil) ?_
      exact ⟨rfl, M140.pick [] (by kernel_rfl)⟩
theorem c_s_l20Places (w : World) (x157 : Int) {r : Bool} (hm : M.s_l20Places x157 = some r) :
    Calls Try.prog 55 #[.int .i64 x157] w fun e w' => e = .returned (.bool r) ∧ Mem [] w w' [] := by
  unfold M.s_l20Places at hm
  refine C_enter Try.func55 rfl (by kernel_rfl) ?_
  have M0 := Mem.refl [] w
  refine G_seq ?_
  refine G_region ?_
  refine W_run 1 [(0, .int .i64 x157)] w (by kernel_rfl) ?_
  refine W_nil ?_
  refine N_then ?_
  refine G_seq ?_
  obtain ⟨o161, ho162, hm163⟩ := gx_bind hm
  refine G_meet (fun a w' => Mem [] w w' [] ∧ Sat Try.f55.ntmps [(2, .bool o161)] a) ?_ ?_
  · have hm := ho162
    refine G_region ?_
    refine W_run 3 [(0, .int .i64 x157), (5, .bool (x157 == 1))] w (by kernel_rfl) ?_
    rcases gx_bif hm with ⟨hc164, hm⟩ | ⟨hc164, hm⟩
    · refine W_known 5 true (by kernel_rfl) hc164 ?_
      refine W_run 12 [(2, .bool true)] w (by kernel_rfl) ?_
      refine W_nil ?_
      obtain rfl := Option.some.inj hm
      exact N_meet fun a ha => ⟨M0.pick [] (by kernel_rfl), ha.sub (by kernel_rfl)⟩
    · refine W_known 5 false (by kernel_rfl) hc164 ?_
      refine W_run 4 [(0, .int .i64 x157), (9, .bool (x157 == 2))] w (by kernel_rfl) ?_
      rcases gx_bif hm with ⟨hc165, hm⟩ | ⟨hc165, hm⟩
      · refine W_known 9 true (by kernel_rfl) hc165 ?_
        refine W_run 8 [(2, .bool true)] w (by kernel_rfl) ?_
        refine W_nil ?_
        obtain rfl := Option.some.inj hm
        exact N_meet fun a ha => ⟨M0.pick [] (by kernel_rfl), ha.sub (by kernel_rfl)⟩
      · refine W_known 9 false (by kernel_rfl) hc165 ?_
        refine W_run 4 [(0, .int .i64 x157), (13, .bool (x157 == 4))] w (by kernel_rfl) ?_
        rcases gx_bif hm with ⟨hc166, hm⟩ | ⟨hc166, hm⟩
        · refine W_known 13 true (by kernel_rfl) hc166 ?_
          refine W_run 4 [(2, .bool true)] w (by kernel_rfl) ?_
          refine W_nil ?_
          obtain rfl := Option.some.inj hm
          exact N_meet fun a ha => ⟨M0.pick [] (by kernel_rfl), ha.sub (by kernel_rfl)⟩
        · refine W_known 13 false (by kernel_rfl) hc166 ?_
          refine W_run 4 [(2, .bool (x157 == 8))] w (by kernel_rfl) ?_
          refine W_nil ?_
          obtain rfl := Option.some.inj hm
          exact N_meet fun a ha => ⟨M0.pick [] (by kernel_rfl), ha.sub (by kernel_rfl)⟩
  · intro a169 w167 ⟨M168, hS170⟩
    refine N_use hS170 ?_
    have hm := hm163
    refine N_then ?_
    refine G_ret ?_
    obtain rfl := Option.some.inj hm
    refine N_ret [.bool o161] (RVs_cons (RV_tmp (by kernel_rfl)) RVs_nil) ?_
    exact ⟨rfl, M168.pick [] (by kernel_rfl)⟩
theorem c_s_MakeRing (w : World) (x146 : Int) (x147 : Int) {r : Ring × Bool} (hm : M.s_MakeRing x146 x147 = some r) :
    Calls Try.prog 16 #[.int .i64 x146, .int .i64 x147] w fun e w' => ∃ (p149 : Option Addr) (c150 : Nat) (sg151 : Seg), e = .returned (.tuple #[.agg #[.slice p149 r.1.Items.length c150, .int .i64 r.1.Head, .int .i64 r.1.Tail], .bool r.2]) ∧ ownS encI r.1.Items p149 c150 sg151 ∧ Mem [] w w' [sg151] := by
  unfold M.s_MakeRing at hm
  refine C_enter Try.func16 rfl (by kernel_rfl) ?_
  have M0 := Mem.refl [] w
  refine G_seq ?_
  refine G_region ?_
  refine W_new (fun b => .pointer (some ⟨b, 0, none⟩)) (.cells ⟨[.slice none 0 0, .int .i64 0, .int .i64 0]⟩ 27 (0, 0)) M0 rfl (by kernel_rfl) (by kernel_rfl) ?_
  intro b154 w155 M156
  refine W_run 1 [(0, .int .i64 x146), (1, .int .i64 x147), (4, .pointer (some ⟨b154, 0, none⟩))] w155 (by kernel_rfl) ?_
  refine W_nil ?_
  refine N_then ?_
  refine G_seq ?_
  refine G_seq ?_
  obtain ⟨o180, ho181, hm182⟩ := gx_bind hm
  refine G_meet (fun a w' => Mem [] w w' [[(b154, .cells ⟨[.slice none 0 0, .int .i64 0, .int .i64 0]⟩ 27 (0, 0))]] ∧ Sat Try.f16.ntmps [(0, .int .i64 x146), (1, .int .i64 x147), (4, .pointer (some ⟨b154, 0, none⟩)), (13, .bool o180)] a) ?_ ?_
  · have hm := ho181
    refine G_region ?_
    refine W_run 1 [(0, .int .i64 x146), (1, .int .i64 x147), (4, .pointer (some ⟨b154, 0, none⟩)), (6, .int .i64 x146)] w155 (by kernel_rfl) ?_
    obtain ⟨r183, hr183, hm⟩ := gx_bind hm
    refine W_call 55 #[.int .i64 x146] (by kernel_rfl) (by kernel_rfl) ?_
    refine (c_s_l20Places w155 x146 hr183).mono ?_
    rintro e_ w184 ⟨rfl, K185⟩
    have M186 := M156.call0 K185
    refine ⟨_, rfl, ?_⟩
    refine W_run 2 [(0, .int .i64 x146), (1, .int .i64 x147), (4, .pointer (some ⟨b154, 0, none⟩)), (9, .bool (!r183))] w184 (by kernel_rfl) ?_
    rcases gx_bif hm with ⟨hc187, hm⟩ | ⟨hc187, hm⟩
    · refine W_known 9 true (by kernel_rfl) hc187 ?_
      refine W_run 4 [(0, .int .i64 x146), (1, .int .i64 x147), (4, .pointer (some ⟨b154, 0, none⟩)), (13, .bool true)] w184 (by kernel_rfl) ?_
      refine W_nil ?_
      obtain rfl := Option.some.inj hm
      exact N_meet fun a ha => ⟨M186.pick [0] (by kernel_rfl), ha.sub (by kernel_rfl)⟩
    · refine W_known 9 false (by kernel_rfl) hc187 ?_
      refine W_run 1 [(0, .int .i64 x146), (1, .int .i64 x147), (4, .pointer (some ⟨b154, 0, none⟩)), (9, .bool false), (10, .int .i64 x147)] w184 (by kernel_rfl) ?_
      obtain ⟨r188, hr188, hm⟩ := gx_bind hm
      refine W_call 52 #[.int .i64 x147] (by kernel_rfl) (by kernel_rfl) ?_
      refine (c_s_l2Word16 w184 x147 hr188).mono ?_
      rintro e_ w189 ⟨rfl, K190⟩
      have M191 := M186.call0 K190
      refine ⟨_, rfl, ?_⟩
      refine W_run 2 [(0, .int .i64 x146), (1, .int .i64 x147), (4, .pointer (some ⟨b154, 0, none⟩)), (13, .bool (!r188))] w189 (by kernel_rfl) ?_
      refine W_nil ?_
      obtain rfl := Option.some.inj hm
      exact N_meet fun a ha => ⟨M191.pick [0] (by kernel_rfl), ha.sub (by kernel_rfl)⟩
  · intro a194 w192 ⟨M193, hS195⟩
    refine N_use hS195 ?_
    have hm := hm182
    refine N_then ?_
    rcases gx_bif hm with ⟨hc196, hm⟩ | ⟨hc196, hm⟩
    · refine G_cond_t (b := o180) hc196 (by kernel_rfl) ?_
      refine G_seq ?_
      refine G_region ?_
      refine W_run 1 [(4, .pointer (some ⟨b154, 0, none⟩)), (14, .agg #[.slice none 0 0, .int .i64 0, .int .i64 0])] w192 (by kernel_rfl) ?_
      refine W_store _ _ _ true 3 b154 0 [.slice none 0 0, .int .i64 0, .int .i64 0] 27 (.agg #[.slice none 0 0, .int .i64 0, .int .i64 0]) 0 [.slice none 0 0, .int .i64 0, .int .i64 0] M193 (by kernel_rfl) rfl (by kernel_rfl) (by kernel_rfl) (by kernel_rfl) (by kernel_rfl) (by kernel_rfl) (by kernel_rfl) (by kernel_rfl) (by kernel_rfl) ?_
      intro w198 M199
      refine W_run 1 [(4, .pointer (some ⟨b154, 0, none⟩)), (5, .bool false)] w198 (by kernel_rfl) ?_
      refine W_nil ?_
      refine N_then ?_
      refine G_ret ?_
      refine N_then_ret ?_
      obtain rfl := Option.some.inj hm
      refine N_ret [.agg #[.slice none 0 0, .int .i64 0, .int .i64 0], .bool false] (RVs_cons (RV_cell (g := true) (k := 3) (b := b154) (off := 0) (cs := [.slice none 0 0, .int .i64 0, .int .i64 0]) (e := 27) (fr := (0, 0)) (v := .agg #[.slice none 0 0, .int .i64 0, .int .i64 0]) (M199.blk 0 (b := b154) (o := .cells ⟨[.slice none 0 0, .int .i64 0, .int .i64 0]⟩ 27 (0, 0)) (by kernel_rfl)) (by kernel_rfl) (by kernel_rfl) (by kernel_rfl)) (RVs_cons (RV_tmp (by kernel_rfl)) RVs_nil)) ?_
      exact ⟨none, 0, [], rfl, ownS_nil, M199.pick [100000] (by kernel_rfl)⟩
    · refine G_cond_f (b := o180) hc196 (by kernel_rfl) ?_
      refine G_skip ?_
      refine N_then ?_
      refine G_seq ?_
      refine G_region ?_
      refine W_run 1 [(1, .int .i64 x147), (4, .pointer (some ⟨b154, 0, none⟩)), (15, .int .i64 x146)] w192 (by kernel_rfl) ?_
      obtain ⟨mk200, hmk200, hm⟩ := gx_bind hm
      refine W_make (E := encI) _ _ _ x146 8 [.int .i64 0] (0 : Int) M193 (by kernel_rfl) rfl (by kernel_rfl) (by kernel_rfl) (by kernel_rfl) (by kernel_rfl) (by kernel_rfl) hmk200 ?_
      intro p201 c202 sg203 w204 ho205 M206
      refine W_run 3 [(4, .pointer (some ⟨b154, 0, none⟩)), (19, .agg #[.slice p201 mk200.length c202, .int .i64 x147, .int .i64 x147])] w204 (by kernel_rfl) ?_
      refine W_store _ _ _ true 3 b154 0 [.slice none 0 0, .int .i64 0, .int .i64 0] 27 (.agg #[.slice p201 mk200.length c202, .int .i64 x147, .int .i64 x147]) 0 [.slice p201 mk200.length c202, .int .i64 x147, .int .i64 x147] M206 (by kernel_rfl) rfl (by kernel_rfl) (by kernel_rfl) (by kernel_rfl) (by kernel_rfl) (by kernel_rfl) (by kernel_rfl) (by kernel_rfl) (by kernel_rfl) ?_
      intro w209 M210
      refine W_run 1 [(4, .pointer (some ⟨b154, 0, none⟩)), (5, .bool true)] w209 (by kernel_rfl) ?_
      refine W_nil ?_
      refine N_then ?_
      refine G_ret ?_
      obtain rfl := Option.some.inj hm
      refine N_ret [.agg #[.slice p201 mk200.length c202, .int .i64 x147, .int .i64 x147], .bool true] (RVs_cons (RV_cell (g := true) (k := 3) (b := b154) (off := 0) (cs := [.slice p201 mk200.length c202, .int .i64 x147, .int .i64 x147]) (e := 27) (fr := (0, 0)) (v := .agg #[.slice p201 mk200.length c202, .int .i64 x147, .int .i64 x147]) (M210.blk 0 (b := b154) (o := .cells ⟨[.slice p201 mk200.length c202, .int .i64 x147, .int .i64 x147]⟩ 27 (0, 0)) (by kernel_rfl)) (by kernel_rfl) (by kernel_rfl) (by kernel_rfl)) (RVs_cons (RV_tmp (by kernel_rfl)) RVs_nil)) ?_
      exact ⟨p201, c202, sg203, rfl, ho205, M210.pick [1] (by kernel_rfl)⟩
theorem c_i_arePlaces (w : World) (x238 : Int) {r : Bool} (hm : M.i_arePlaces x238 = some r) :
    Calls Try.prog 56 #[.int .i64 x238] w fun e w' => e = .returned (.bool r) ∧ Mem [] w w' [] := by
  unfold M.i_arePlaces at hm
  refine C_enter Try.func56 rfl (by kernel_rfl) ?_
  have M0 := Mem.refl [] w
  refine G_seq ?_
  refine G_region ?_
  refine W_run 1 [(0, .int .i64 x238)] w (by kernel_rfl) ?_
  refine W_nil ?_
  refine N_then ?_
  refine G_seq ?_
  obtain ⟨o244, ho245, hm246⟩ := gx_bind hm
  refine G_meet (fun a w' => Mem [] w w' [] ∧ Sat Try.f56.ntmps [(2, .bool o244)] a) ?_ ?_
  · have hm := ho245
    refine G_region ?_
    refine W_run 1 [(0, .int .i64 x238), (3, .int .i64 x238)] w (by kernel_rfl) ?_
    obtain ⟨r247, hr247, hm⟩ := gx_bind hm
    refine W_call 78 #[.int .i64 x238, .int .i64 1, .int .i64 8] (by kernel_rfl) (by kernel_rfl) ?_
    refine (c_i_inside w x238 1 8 hr247).mono ?_
    rintro e_ w248 ⟨rfl, K249⟩
    have M250 := M0.call0 K249
    refine ⟨_, rfl, ?_⟩
    refine W_run 1 [(0, .int .i64 x238), (5, .bool r247)] w248 (by kernel_rfl) ?_
    rcases gx_bif hm with ⟨hc251, hm⟩ | ⟨hc251, hm⟩
    · refine W_known 5 true (by kernel_rfl) hc251 ?_
      refine W_run 7 [(2, .bool ((gxAnd .i64 x238 (w64 (x238 - 1))) == 0))] w248 (by kernel_rfl) ?_
      refine W_nil ?_
      obtain rfl := Option.some.inj hm
      exact N_meet fun a ha => ⟨M250.pick [] (by kernel_rfl), ha.sub (by kernel_rfl)⟩
    · refine W_known 5 false (by kernel_rfl) hc251 ?_
      refine W_run 7 [(2, .bool false)] w248 (by kernel_rfl) ?_
      refine W_nil ?_
      obtain rfl := Option.some.inj hm
      exact N_meet fun a ha => ⟨M250.pick [] (by kernel_rfl), ha.sub (by kernel_rfl)⟩
  · intro a254 w252 ⟨M253, hS255⟩
    refine N_use hS255 ?_
    have hm := hm246
    refine N_then ?_
    refine G_ret ?_
    obtain rfl := Option.some.inj hm
    refine N_ret [.bool o244] (RVs_cons (RV_tmp (by kernel_rfl)) RVs_nil) ?_
    exact ⟨rfl, M253.pick [] (by kernel_rfl)⟩
theorem c_i_MakeRing (w : World) (x227 : Int) (x228 : Int) {r : Ring × Bool} (hm : M.i_MakeRing x227 x228 = some r) :
    Calls Try.prog 17 #[.int .i64 x227, .int .i64 x228] w fun e w' => ∃ (p230 : Option Addr) (c231 : Nat) (sg232 : Seg), e = .returned (.tuple #[.agg #[.slice p230 r.1.Items.length c231, .int .i64 r.1.Head, .int .i64 r.1.Tail], .bool r.2]) ∧ ownS encI r.1.Items p230 c231 sg232 ∧ Mem [] w w' [sg232] := by
  unfold M.i_MakeRing at hm
  refine C_enter Try.func17 rfl (by kernel_rfl) ?_
  have M0 := Mem.refl [] w
  refine G_seq ?_
  refine G_region ?_
  refine W_new (fun b => .pointer (some ⟨b, 0, none⟩)) (.cells ⟨[.slice none 0 0, .int .i64 0, .int .i64 0]⟩ 27 (0, 0)) M0 rfl (by kernel_rfl) (by kernel_rfl) ?_
  intro b235 w236 M237
  refine W_run 1 [(0, .int .i64 x227), (1, .int .i64 x228), (4, .pointer (some ⟨b235, 0, none⟩))] w236 (by kernel_rfl) ?_
  refine W_nil ?_
  refine N_then ?_
  refine G_seq ?_
  refine G_seq ?_
  obtain ⟨o265, ho266, hm267⟩ := gx_bind hm
  refine G_meet (fun a w' => Mem [] w w' [[(b235, .cells ⟨[.slice none 0 0, .int .i64 0, .int .i64 0]⟩ 27 (0, 0))]] ∧ Sat Try.f17.ntmps [(0, .int .i64 x227), (1, .int .i64 x228), (4, .pointer (some ⟨b235, 0, none⟩)), (13, .bool o265)] a) ?_ ?_
  · have hm := ho266
    refine G_region ?_
    refine W_run 1 [(0, .int .i64 x227), (1, .int .i64 x228), (4, .pointer (some ⟨b235, 0, none⟩)), (6, .int .i64 x227)] w236 (by kernel_rfl) ?_
    obtain ⟨r268, hr268, hm⟩ := gx_bind hm
    refine W_call 56 #[.int .i64 x227] (by kernel_rfl) (by kernel_rfl) ?_
    refine (c_i_arePlaces w236 x227 hr268).mono ?_
    rintro e_ w269 ⟨rfl, K270⟩
    have M271 := M237.call0 K270
    refine ⟨_, rfl, ?_⟩
    refine W_run 2 [(0, .int .i64 x227), (1, .int .i64 x228), (4, .pointer (some ⟨b235, 0, none⟩)), (9, .bool (!r268))] w269 (by kernel_rfl) ?_
    rcases gx_bif hm with ⟨hc272, hm⟩ | ⟨hc272, hm⟩
    · refine W_known 9 true (by kernel_rfl) hc272 ?_
      refine W_run 4 [(0, .int .i64 x227), (1, .int .i64 x228), (4, .pointer (some ⟨b235, 0, none⟩)), (13, .bool true)] w269 (by kernel_rfl) ?_
      refine W_nil ?_
      obtain rfl := Option.some.inj hm
      exact N_meet fun a ha => ⟨M271.pick [0] (by kernel_rfl), ha.sub (by kernel_rfl)⟩
    · refine W_known 9 false (by kernel_rfl) hc272 ?_
      refine W_run 1 [(0, .int .i64 x227), (1, .int .i64 x228), (4, .pointer (some ⟨b235, 0, none⟩)), (9, .bool false), (10, .int .i64 x228)] w269 (by kernel_rfl) ?_
      obtain ⟨r273, hr273, hm⟩ := gx_bind hm
      refine W_call 53 #[.int .i64 x228] (by kernel_rfl) (by kernel_rfl) ?_
      refine (c_i_isWord16 w269 x228 hr273).mono ?_
      rintro e_ w274 ⟨rfl, K275⟩
      have M276 := M271.call0 K275
      refine ⟨_, rfl, ?_⟩
      refine W_run 2 [(0, .int .i64 x227), (1, .int .i64 x228), (4, .pointer (some ⟨b235, 0, none⟩)), (13, .bool (!r273))] w274 (by kernel_rfl) ?_
      refine W_nil ?_
      obtain rfl := Option.some.inj hm
      exact N_meet fun a ha => ⟨M276.pick [0] (by kernel_rfl), ha.sub (by kernel_rfl)⟩
  · intro a279 w277 ⟨M278, hS280⟩
    refine N_use hS280 ?_
    have hm := hm267
    refine N_then ?_
    rcases gx_bif hm with ⟨hc281, hm⟩ | ⟨hc281, hm⟩
    · refine G_cond_t (b := o265) hc281 (by kernel_rfl) ?_
      refine G_seq ?_
      refine G_region ?_
      refine W_run 1 [(4, .pointer (some ⟨b235, 0, none⟩)), (14, .agg #[.slice none 0 0, .int .i64 0, .int .i64 0])] w277 (by kernel_rfl) ?_
      refine W_store _ _ _ true 3 b235 0 [.slice none 0 0, .int .i64 0, .int .i64 0] 27 (.agg #[.slice none 0 0, .int .i64 0, .int .i64 0]) 0 [.slice none 0 0, .int .i64 0, .int .i64 0] M278 (by kernel_rfl) rfl (by kernel_rfl) (by kernel_rfl) (by kernel_rfl) (by kernel_rfl) (by kernel_rfl) (by kernel_rfl) (by kernel_rfl) (by kernel_rfl) ?_
      intro w283 M284
      refine W_run 1 [(4, .pointer (some ⟨b235, 0, none⟩)), (5, .bool false)] w283 (by kernel_rfl) ?_
      refine W_nil ?_
      refine N_then ?_
      refine G_ret ?_
      refine N_then_ret ?_
      obtain rfl := Option.some.inj hm
      refine N_ret [.agg #[.slice none 0 0, .int .i64 0, .int .i64 0], .bool false] (RVs_cons (RV_cell (g := true) (k := 3) (b := b235) (off := 0) (cs := [.slice none 0 0, .int .i64 0, .int .i64 0]) (e := 27) (fr := (0, 0)) (v := .agg #[.slice none 0 0, .int .i64 0, .int .i64 0]) (M284.blk 0 (b := b235) (o := .cells ⟨[.slice none 0 0, .int .i64 0, .int .i64 0]⟩ 27 (0, 0)) (by kernel_rfl)) (by kernel_rfl) (by kernel_rfl) (by kernel_rfl)) (RVs_cons (RV_tmp (by kernel_rfl)) RVs_nil)) ?_
      exact ⟨none, 0, [], rfl, ownS_nil, M284.pick [100000] (by kernel_rfl)⟩
    · refine G_cond_f (b := o265) hc281 (by kernel_rfl) ?_
      refine G_skip ?_
      refine N_then ?_
      refine G_seq ?_
      refine G_region ?_
      refine W_run 1 [(1, .int .i64 x228), (4, .pointer (some ⟨b235, 0, none⟩)), (15, .int .i64 x227)] w277 (by kernel_rfl) ?_
      obtain ⟨mk285, hmk285, hm⟩ := gx_bind hm
      refine W_make (E := encI) _ _ _ x227 8 [.int .i64 0] (0 : Int) M278 (by kernel_rfl) rfl (by kernel_rfl) (by kernel_rfl) (by kernel_rfl) (by kernel_rfl) (by kernel_rfl) hmk285 ?_
      intro p286 c287 sg288 w289 ho290 M291
      refine W_run 3 [(4, .pointer (some ⟨b235, 0, none⟩)), (19, .agg #[.slice p286 mk285.length c287, .int .i64 x228, .int .i64 x228])] w289 (by kernel_rfl) ?_
      refine W_store _ _ _ true 3 b235 0 [.slice none 0 0, .int .i64 0, .int .i64 0] 27 (.agg #[.slice p286 mk285.length c287, .int .i64 x228, .int .i64 x228]) 0 [.slice p286 mk285.length c287, .int .i64 x228, .int .i64 x228] M291 (by kernel_rfl) rfl (by kernel_rfl) (by kernel_rfl) (by kernel_rfl) (by kernel_rfl) (by kernel_rfl) (by kernel_rfl) (by kernel_rfl) (by kernel_rfl) ?_
      intro w294 M295
      refine W_run 1 [(4, .pointer (some ⟨b235, 0, none⟩)), (5, .bool true)] w294 (by kernel_rfl) ?_
      refine W_nil ?_
      refine N_then ?_
      refine G_ret ?_
      obtain rfl := Option.some.inj hm
      refine N_ret [.agg #[.slice p286 mk285.length c287, .int .i64 x228, .int .i64 x228], .bool true] (RVs_cons (RV_cell (g := true) (k := 3) (b := b235) (off := 0) (cs := [.slice p286 mk285.length c287, .int .i64 x228, .int .i64 x228]) (e := 27) (fr := (0, 0)) (v := .agg #[.slice p286 mk285.length c287, .int .i64 x228, .int .i64 x228]) (M295.blk 0 (b := b235) (o := .cells ⟨[.slice p286 mk285.length c287, .int .i64 x228, .int .i64 x228]⟩ 27 (0, 0)) (by kernel_rfl)) (by kernel_rfl) (by kernel_rfl) (by kernel_rfl)) (RVs_cons (RV_tmp (by kernel_rfl)) RVs_nil)) ?_
      exact ⟨p286, c287, sg288, rfl, ho290, M295.pick [1] (by kernel_rfl)⟩
theorem c_l_eqIntS (w : World) (x330 : List Int) (p332 : Option Addr) (c333 : Nat) (h334 : rdS encI w x330 p332 c333) (x335 : List Int) (p337 : Option Addr) (c338 : Nat) (h339 : rdS encI w x335 p337 c338) {r : Bool} (hm : M.l_eqIntS x330 x335 = some r) :
    Calls Try.prog 27 #[.slice p332 x330.length c333, .slice p337 x335.length c338] w fun e w' => e = .returned (.bool r) ∧ Mem [] w w' [] := by
  unfold M.l_eqIntS at hm
  refine C_enter Try.func27 rfl (by kernel_rfl) ?_
  have M0 := Mem.refl [] w
  refine G_seq ?_
  refine G_region ?_
  refine W_run 1 [(0, .slice p332 x330.length c333), (1, .slice p337 x335.length c338)] w (by kernel_rfl) ?_
  refine W_nil ?_
  refine N_then ?_
  refine G_seq ?_
  refine G_seq ?_
  refine G_region ?_
  refine W_run 5 [(0, .slice p332 x330.length c333), (1, .slice p337 x335.length c338), (10, .bool ((x330.length : Int) != (x335.length : Int)))] w (by kernel_rfl) ?_
  refine W_nil ?_
  refine N_then ?_
  rcases gx_bif hm with ⟨hc340, hm⟩ | ⟨hc340, hm⟩
  · refine G_cond_t (b := ((x330.length : Int) != (x335.length : Int))) hc340 (by kernel_rfl) ?_
    refine G_seq ?_
    refine G_region ?_
    refine W_run 1 [(4, .bool false)] w (by kernel_rfl) ?_
    refine W_nil ?_
    refine N_then ?_
    refine G_ret ?_
    refine N_then_ret ?_
    obtain rfl := Option.some.inj hm
    refine N_ret [.bool false] (RVs_cons (RV_tmp (by kernel_rfl)) RVs_nil) ?_
    exact ⟨rfl, M0.pick [] (by kernel_rfl)⟩
  · refine G_cond_f (b := ((x330.length : Int) != (x335.length : Int))) hc340 (by kernel_rfl) ?_
    refine G_skip ?_
    refine N_then ?_
    refine G_seq ?_
    refine G_seq ?_
    refine G_region ?_
    refine W_run 1 [(0, .slice p332 x330.length c333), (1, .slice p337 x335.length c338), (5, .int .i64 0)] w (by kernel_rfl) ?_
    refine W_nil ?_
    refine N_then ?_
    obtain ⟨out360, hw361, hmo362⟩ := gx_bind hm
    refine G_meet (fun a w' => ∃ (o363 : Unit), out360 = .inl o363 ∧ Mem [] w w' [] ∧ Sat Try.f27.ntmps [] a) ?_ ?_
    · refine G_block ?_
      refine G_while (σ := Int) (ρ := (Unit) ⊕ (Bool)) (fun s353 a w' => Mem [] w w' [] ∧ Sat Try.f27.ntmps [(0, .slice p332 x330.length c333), (1, .slice p337 x335.length c338), (5, .int .i64 s353)] a) hw361 (fun a ha => ⟨M0.pick [] (by kernel_rfl), ha.sub (by kernel_rfl)⟩) ?_
      clear hm
      intro s353 x354 hm hout355 a356 w357 ⟨M358, hS359⟩
      refine G_use hS359 ?_
      refine G_seq ?_
      refine G_seq ?_
      refine G_region ?_
      refine W_run 4 [(0, .slice p332 x330.length c333), (1, .slice p337 x335.length c338), (5, .int .i64 s353), (14, .bool (decide (s353 < (x330.length : Int))))] w357 (by kernel_rfl) ?_
      refine W_nil ?_
      refine N_then ?_
      rcases gx_bif hm with ⟨hc364, hm⟩ | ⟨hc364, hm⟩
      · refine G_cond_t (b := (decide (s353 < (x330.length : Int)))) hc364 (by kernel_rfl) ?_
        refine G_skip ?_
        refine N_then ?_
        refine G_seq ?_
        refine G_block ?_
        refine G_seq ?_
        refine G_quiet (by kernel_rfl) (by kernel_rfl) M358 ?_
        refine Z_runs [.slice p332 x330.length c333, .int .i64 s353] [(0, .slice p332 x330.length c333), (1, .slice p337 x335.length c338), (5, .int .i64 s353), (17, .slice p332 x330.length c333), (18, .int .i64 s353)] (fun w_ => by kernel_rfl) (by kernel_rfl) ?_
        obtain ⟨y365, hy365, hm⟩ := gx_bind hm
        refine Z_val (elemP p332 (s353.toNat * 1)) (by kernel_rfl) (fun w_ M_ => (E_index (E := encI) _ _ _ x330.length c333 .i64 s353 1 (y := y365) rfl (by kernel_rfl) (by kernel_rfl) (by kernel_rfl) (h334.mem0 M_) rfl hy365)) ?_
        refine Z_val (.int .i64 y365) (by kernel_rfl) (fun w_ M_ => (E_loadE (E := encI) _ _ false 1 s353 0 (s353.toNat * 1) y365 (.int .i64 y365) rfl (by kernel_rfl) (by kernel_rfl) (by kernel_rfl) (h334.mem0 M_) hy365 rfl)) ?_
        refine Z_runs [.slice p337 x335.length c338, .int .i64 s353] [(0, .slice p332 x330.length c333), (1, .slice p337 x335.length c338), (5, .int .i64 s353), (20, .int .i64 y365), (21, .slice p337 x335.length c338), (22, .int .i64 s353)] (fun w_ => by kernel_rfl) (by kernel_rfl) ?_
        obtain ⟨y366, hy366, hm⟩ := gx_bind hm
        refine Z_val (elemP p337 (s353.toNat * 1)) (by kernel_rfl) (fun w_ M_ => (E_index (E := encI) _ _ _ x335.length c338 .i64 s353 1 (y := y366) rfl (by kernel_rfl) (by kernel_rfl) (by kernel_rfl) (h339.mem0 M_) rfl hy366)) ?_
        refine Z_val (.int .i64 y366) (by kernel_rfl) (fun w_ M_ => (E_loadE (E := encI) _ _ false 1 s353 0 (s353.toNat * 1) y366 (.int .i64 y366) rfl (by kernel_rfl) (by kernel_rfl) (by kernel_rfl) (h339.mem0 M_) hy366 rfl)) ?_
        refine Z_runs [.bool (y365 != y366)] [(0, .slice p332 x330.length c333), (1, .slice p337 x335.length c338), (5, .int .i64 s353), (25, .bool (y365 != y366))] (fun w_ => by kernel_rfl) (by kernel_rfl) ?_
        refine Z_end fun w367 M368 => ?_
        refine N_then ?_
        rcases gx_bif hm with ⟨hc369, hm⟩ | ⟨hc369, hm⟩
        · refine G_cond_t (b := (y365 != y366)) hc369 (by kernel_rfl) ?_
          refine G_seq ?_
          refine G_region ?_
          refine W_run 1 [(4, .bool false)] w367 (by kernel_rfl) ?_
          refine W_nil ?_
          refine N_then ?_
          refine G_ret ?_
          refine N_block_ret ?_
          refine N_then_ret ?_
          refine N_then_ret ?_
          obtain rfl := Option.some.inj hm
          obtain rfl := hout355 _ rfl
          have hm := hmo362; simp only [Sum.elim_inr] at hm
          refine N_block_ret ?_
          refine N_meet_ret ?_
          refine N_then_ret ?_
          obtain rfl := Option.some.inj hm
          refine N_ret [.bool false] (RVs_cons (RV_tmp (by kernel_rfl)) RVs_nil) ?_
          exact ⟨rfl, M368.pick [] (by kernel_rfl)⟩
        · refine G_cond_f (b := (y365 != y366)) hc369 (by kernel_rfl) ?_
          refine G_skip ?_
          refine N_block ?_
          refine N_then ?_
          refine G_region ?_
          refine W_run 3 [(0, .slice p332 x330.length c333), (1, .slice p337 x335.length c338), (5, .int .i64 (w64 (s353 + 1)))] w367 (by kernel_rfl) ?_
          refine W_nil ?_
          obtain rfl := Option.some.inj hm
          exact N_loop fun a ha => ⟨_, rfl, M368.pick [] (by kernel_rfl), ha.sub (by kernel_rfl)⟩
      · refine G_cond_f (b := (decide (s353 < (x330.length : Int)))) hc364 (by kernel_rfl) ?_
        refine G_exit ?_
        refine N_then_exit ?_
        refine N_then_exit ?_
        refine N_block_eq ?_
        obtain rfl := Option.some.inj hm
        obtain rfl := hout355 _ rfl
        exact N_meet fun a ha => ⟨_, rfl, M358.pick [] (by kernel_rfl), ha.sub (by kernel_rfl)⟩
    · intro a370 w371 ⟨o363, hout_, M372, hS373⟩
      refine N_use hS373 ?_
      subst hout_
      have hm := hmo362; simp only [Sum.elim_inl] at hm
      refine N_then ?_
      refine G_seq ?_
      refine G_region ?_
      refine W_run 1 [(4, .bool true)] w371 (by kernel_rfl) ?_
      refine W_nil ?_
      refine N_then ?_
      refine G_ret ?_
      obtain rfl := Option.some.inj hm
      refine N_ret [.bool true] (RVs_cons (RV_tmp (by kernel_rfl)) RVs_nil) ?_
      exact ⟨rfl, M372.pick [] (by kernel_rfl)⟩
theorem c_l_eqRing (w : World) (x312 : Ring) (p314 : Option Addr) (c315 : Nat) (h316 : rdS encI w x312.Items p314 c315) (x317 : Ring) (p319 : Option Addr) (c320 : Nat) (h321 : rdS encI w x317.Items p319 c320) {r : Bool} (hm : M.l_eqRing x312 x317 = some r) :
    Calls Try.prog 18 #[.agg #[.slice p314 x312.Items.length c315, .int .i64 x312.Head, .int .i64 x312.Tail], .agg #[.slice p319 x317.Items.length c320, .int .i64 x317.Head, .int .i64 x317.Tail]] w fun e w' => e = .returned (.bool r) ∧ Mem [] w w' [] := by
  unfold M.l_eqRing at hm
  refine C_enter Try.func18 rfl (by kernel_rfl) ?_
  have M0 := Mem.refl [] w
  refine G_seq ?_
  refine G_region ?_
  refine W_new (fun b => .pointer (some ⟨b, 0, none⟩)) (.cells ⟨[.slice p314 x312.Items.length c315, .int .i64 x312.Head, .int .i64 x312.Tail]⟩ 27 (0, 0)) M0 rfl (by kernel_rfl) (by kernel_rfl) ?_
  intro b323 w324 M325
  refine W_new (fun b => .pointer (some ⟨b, 0, none⟩)) (.cells ⟨[.slice p319 x317.Items.length c320, .int .i64 x317.Head, .int .i64 x317.Tail]⟩ 27 (0, 0)) M325 rfl (by kernel_rfl) (by kernel_rfl) ?_
  intro b327 w328 M329
  refine W_run 1 [(2, .pointer (some ⟨b323, 0, none⟩)), (3, .pointer (some ⟨b327, 0, none⟩))] w328 (by kernel_rfl) ?_
  refine W_nil ?_
  refine N_then ?_
  refine G_seq ?_
  refine G_seq ?_
  refine G_region ?_
  refine W_run 1 [(2, .pointer (some ⟨b323, 0, none⟩)), (3, .pointer (some ⟨b327, 0, none⟩)), (5, .pointer (some ⟨b323, 0, none⟩))] w328 (by kernel_rfl) ?_
  refine W_val (.slice p314 x312.Items.length c315) w328 (by kernel_rfl) (E_load (e := 27) (fr := (0, 0)) _ _ false 1 b323 0 [.slice p314 x312.Items.length c315, .int .i64 x312.Head, .int .i64 x312.Tail] (.slice p314 x312.Items.length c315) rfl (by kernel_rfl) (by kernel_rfl) (by kernel_rfl) (M329.blk 0 (b := b323) (o := .cells ⟨[.slice p314 x312.Items.length c315, .int .i64 x312.Head, .int .i64 x312.Tail]⟩ 27 (0, 0)) (by kernel_rfl))) ?_
  refine W_run 1 [(2, .pointer (some ⟨b323, 0, none⟩)), (3, .pointer (some ⟨b327, 0, none⟩)), (6, .slice p314 x312.Items.length c315), (7, .pointer (some ⟨b327, 0, none⟩))] w328 (by kernel_rfl) ?_
  refine W_val (.slice p319 x317.Items.length c320) w328 (by kernel_rfl) (E_load (e := 27) (fr := (0, 0)) _ _ false 1 b327 0 [.slice p319 x317.Items.length c320, .int .i64 x317.Head, .int .i64 x317.Tail] (.slice p319 x317.Items.length c320) rfl (by kernel_rfl) (by kernel_rfl) (by kernel_rfl) (M329.blk 1 (b := b327) (o := .cells ⟨[.slice p319 x317.Items.length c320, .int .i64 x317.Head, .int .i64 x317.Tail]⟩ 27 (0, 0)) (by kernel_rfl))) ?_
  obtain ⟨r374, hr374, hm⟩ := gx_bind hm
  refine W_call 27 #[.slice p314 x312.Items.length c315, .slice p319 x317.Items.length c320] (by kernel_rfl) (by kernel_rfl) ?_
  refine (c_l_eqIntS w328 x312.Items p314 c315 (h316.mem0 M329) x317.Items p319 c320 (h321.mem0 M329) hr374).mono ?_
  rintro e_ w375 ⟨rfl, K376⟩
  have M377 := M329.call0 K376
  refine ⟨_, rfl, ?_⟩
  refine W_run 1 [(2, .pointer (some ⟨b323, 0, none⟩)), (3, .pointer (some ⟨b327, 0, none⟩)), (10, .bool (!r374))] w375 (by kernel_rfl) ?_
  refine W_nil ?_
  refine N_then ?_
  rcases gx_bif hm with ⟨hc378, hm⟩ | ⟨hc378, hm⟩
  · refine G_cond_t (b := (!r374)) hc378 (by kernel_rfl) ?_
    refine G_seq ?_
    refine G_region ?_
    refine W_run 1 [(4, .bool false)] w375 (by kernel_rfl) ?_
    refine W_nil ?_
    refine N_then ?_
    refine G_ret ?_
    refine N_then_ret ?_
    obtain rfl := Option.some.inj hm
    refine N_ret [.bool false] (RVs_cons (RV_tmp (by kernel_rfl)) RVs_nil) ?_
    exact ⟨rfl, M377.pick [] (by kernel_rfl)⟩
  · refine G_cond_f (b := (!r374)) hc378 (by kernel_rfl) ?_
    refine G_skip ?_
    refine N_then ?_
    refine G_seq ?_
    refine G_seq ?_
    refine G_region ?_
    refine W_run 1 [(2, .pointer (some ⟨b323, 0, none⟩)), (3, .pointer (some ⟨b327, 0, none⟩)), (11, .pointer (some ⟨b323, 1, none⟩))] w375 (by kernel_rfl) ?_
    refine W_val (.int .i64 x312.Head) w375 (by kernel_rfl) (E_load (e := 27) (fr := (0, 0)) _ _ false 1 b323 1 [.slice p314 x312.Items.length c315, .int .i64 x312.Head, .int .i64 x312.Tail] (.int .i64 x312.Head) rfl (by kernel_rfl) (by kernel_rfl) (by kernel_rfl) (M377.blk 0 (b := b323) (o := .cells ⟨[.slice p314 x312.Items.length c315, .int .i64 x312.Head, .int .i64 x312.Tail]⟩ 27 (0, 0)) (by kernel_rfl))) ?_
    refine W_run 1 [(2, .pointer (some ⟨b323, 0, none⟩)), (3, .pointer (some ⟨b327, 0, none⟩)), (12, .int .i64 x312.Head), (13, .pointer (some ⟨b327, 1, none⟩))] w375 (by kernel_rfl) ?_
    refine W_val (.int .i64 x317.Head) w375 (by kernel_rfl) (E_load (e := 27) (fr := (0, 0)) _ _ false 1 b327 1 [.slice p319 x317.Items.length c320, .int .i64 x317.Head, .int .i64 x317.Tail] (.int .i64 x317.Head) rfl (by kernel_rfl) (by kernel_rfl) (by kernel_rfl) (M377.blk 1 (b := b327) (o := .cells ⟨[.slice p319 x317.Items.length c320, .int .i64 x317.Head, .int .i64 x317.Tail]⟩ 27 (0, 0)) (by kernel_rfl))) ?_
    refine W_run 1 [(2, .pointer (some ⟨b323, 0, none⟩)), (3, .pointer (some ⟨b327, 0, none⟩)), (15, .bool (x312.Head != x317.Head))] w375 (by kernel_rfl) ?_
    refine W_nil ?_
    refine N_then ?_
    rcases gx_bif hm with ⟨hc379, hm⟩ | ⟨hc379, hm⟩
    · refine G_cond_t (b := (x312.Head != x317.Head)) hc379 (by kernel_rfl) ?_
      refine G_seq ?_
      refine G_region ?_
      refine W_run 1 [(4, .bool false)] w375 (by kernel_rfl) ?_
      refine W_nil ?_
      refine N_then ?_
      refine G_ret ?_
      refine N_then_ret ?_
      obtain rfl := Option.some.inj hm
      refine N_ret [.bool false] (RVs_cons (RV_tmp (by kernel_rfl)) RVs_nil) ?_
      exact ⟨rfl, M377.pick [] (by kernel_rfl)⟩
    · refine G_cond_f (b := (x312.Head != x317.Head)) hc379 (by kernel_rfl) ?_
      refine G_skip ?_
      refine N_then ?_
      refine G_seq ?_
      refine G_seq ?_
      refine G_region ?_
      refine W_run 1 [(3, .pointer (some ⟨b327, 0, none⟩)), (16, .pointer (some ⟨b323, 2, none⟩))] w375 (by kernel_rfl) ?_
      refine W_val (.int .i64 x312.Tail) w375 (by kernel_rfl) (E_load (e := 27) (fr := (0, 0)) _ _ false 1 b323 2 [.slice p314 x312.Items.length c315, .int .i64 x312.Head, .int .i64 x312.Tail] (.int .i64 x312.Tail) rfl (by kernel_rfl) (by kernel_rfl) (by kernel_rfl) (M377.blk 0 (b := b323) (o := .cells ⟨[.slice p314 x312.Items.length c315, .int .i64 x312.Head, .int .i64 x312.Tail]⟩ 27 (0, 0)) (by kernel_rfl))) ?_
      refine W_run 1 [(17, .int .i64 x312.Tail), (18, .pointer (some ⟨b327, 2, none⟩))] w375 (by kernel_rfl) ?_
      refine W_val (.int .i64 x317.Tail) w375 (by kernel_rfl) (E_load (e := 27) (fr := (0, 0)) _ _ false 1 b327 2 [.slice p319 x317.Items.length c320, .int .i64 x317.Head, .int .i64 x317.Tail] (.int .i64 x317.Tail) rfl (by kernel_rfl) (by kernel_rfl) (by kernel_rfl) (M377.blk 1 (b := b327) (o := .cells ⟨[.slice p319 x317.Items.length c320, .int .i64 x317.Head, .int .i64 x317.Tail]⟩ 27 (0, 0)) (by kernel_rfl))) ?_
      refine W_run 1 [(20, .bool (x312.Tail != x317.Tail))] w375 (by kernel_rfl) ?_
      refine W_nil ?_
      refine N_then ?_
      rcases gx_bif hm with ⟨hc380, hm⟩ | ⟨hc380, hm⟩
      · refine G_cond_t (b := (x312.Tail != x317.Tail)) hc380 (by kernel_rfl) ?_
        refine G_seq ?_
        refine G_region ?_
        refine W_run 1 [(4, .bool false)] w375 (by kernel_rfl) ?_
        refine W_nil ?_
        refine N_then ?_
        refine G_ret ?_
        refine N_then_ret ?_
        obtain rfl := Option.some.inj hm
        refine N_ret [.bool false] (RVs_cons (RV_tmp (by kernel_rfl)) RVs_nil) ?_
        exact ⟨rfl, M377.pick [] (by kernel_rfl)⟩
      · refine G_cond_f (b := (x312.Tail != x317.Tail)) hc380 (by kernel_rfl) ?_
        refine G_skip ?_
        refine N_then ?_
        refine G_seq ?_
        refine G_region ?_
        refine W_run 1 [(4, .bool true)] w375 (by kernel_rfl) ?_
        refine W_nil ?_
        refine N_then ?_
        refine G_ret ?_
        obtain rfl := Option.some.inj hm
        refine N_ret [.bool true] (RVs_cons (RV_tmp (by kernel_rfl)) RVs_nil) ?_
        exact ⟨rfl, M377.pick [] (by kernel_rfl)⟩
theorem c_l_markIntS (w : World) (x411 : List Int) (p413 : Option Addr) (c414 : Nat) (sg415 : Seg) (ho416 : ownS encI x411 p413 c414 sg415) (x417 : Int) (hA : ∀ q ∈ List.flatten [sg415], w.heap[q.1]? = some q.2) (hN : (idsOf [sg415]).Nodup) {r : Int × (List Int)} (hm : M.l_markIntS x411 x417 = some r) :
    Calls Try.prog 28 #[.slice p413 x411.length c414, .int .i64 x417] w fun e w' => ∃ (sg418 : Seg), e = .returned (.int .i64 r.1) ∧ ownS encI r.2 p413 c414 sg418 ∧ r.2.length = x411.length ∧ Mem (idsOf [sg415]) w w' [sg418] := by
  unfold M.l_markIntS at hm
  refine C_enter Try.func28 rfl (by kernel_rfl) ?_
  have M0 := Mem.start' w [sg415] hA hN
  refine G_seq ?_
  refine G_region ?_
  refine W_run 1 [(0, .slice p413 x411.length c414), (1, .int .i64 x417)] w (by kernel_rfl) ?_
  refine W_nil ?_
  refine N_then ?_
  refine G_seq ?_
  refine G_seq ?_
  refine G_region ?_
  refine W_run 1 [(0, .slice p413 x411.length c414), (1, .int .i64 x417), (5, .int .i64 0)] w (by kernel_rfl) ?_
  refine W_nil ?_
  refine N_then ?_
  obtain ⟨out441, hw442, hmo443⟩ := gx_bind hm
  refine G_meet (fun a w' => ∃ (sg448 : Seg), ownS encI out441.2 p413 c414 sg448 ∧ out441.2.length = x411.length ∧ Mem (idsOf [sg415]) w w' [sg448] ∧ Sat Try.f28.ntmps [(1, .int .i64 out441.1)] a) ?_ ?_
  · refine G_block ?_
    refine G_while (σ := Int × Int × List Int) (ρ := Int × List Int) (fun s434 a w' => ∃ (sg444 : Seg), ownS encI s434.2.2 p413 c414 sg444 ∧ s434.2.2.length = x411.length ∧ Mem (idsOf [sg415]) w w' [sg444] ∧ Sat Try.f28.ntmps [(0, .slice p413 s434.2.2.length c414), (1, .int .i64 s434.1), (5, .int .i64 s434.2.1)] a) hw442 (fun a ha => ⟨sg415, ho416, rfl, M0.pick [0] (by kernel_rfl), ha.sub (by kernel_rfl)⟩) ?_
    clear hm
    intro s434 x435 hm hout436 a437 w438 ⟨sg444, ho445, hl446, M439, hS440⟩
    refine G_use hS440 ?_
    refine G_seq ?_
    refine G_seq ?_
    refine G_region ?_
    refine W_run 4 [(0, .slice p413 s434.2.2.length c414), (1, .int .i64 s434.1), (5, .int .i64 s434.2.1), (9, .bool (decide (s434.2.1 < (s434.2.2.length : Int))))] w438 (by kernel_rfl) ?_
    refine W_nil ?_
    refine N_then ?_
    rcases gx_bif hm with ⟨hc451, hm⟩ | ⟨hc451, hm⟩
    · refine G_cond_t (b := (decide (s434.2.1 < (s434.2.2.length : Int)))) hc451 (by kernel_rfl) ?_
      refine G_skip ?_
      refine N_then ?_
      refine G_seq ?_
      refine G_block ?_
      refine G_seq ?_
      refine G_region ?_
      refine W_run 3 [(0, .slice p413 s434.2.2.length c414), (1, .int .i64 s434.1), (5, .int .i64 s434.2.1), (12, .slice p413 s434.2.2.length c414), (13, .int .i64 s434.2.1), (14, .int .i64 s434.1)] w438 (by kernel_rfl) ?_
      obtain ⟨y452, hy452, hm⟩ := gx_bind hm
      refine W_val (elemP p413 (s434.2.1.toNat * 1)) w438 (by kernel_rfl) (E_index (E := encI) _ _ _ s434.2.2.length c414 .i64 s434.2.1 1 (y := y452) rfl (by kernel_rfl) (by kernel_rfl) (by kernel_rfl) (ho445.rd M439 0 (by kernel_rfl)) rfl hy452) ?_
      refine W_storeE (E := encI) _ _ _ false 1 s434.2.1.toNat 0 (s434.2.1.toNat * 1) y452 s434.1 (.int .i64 s434.1) 0 M439 ho445 (by kernel_rfl) (by kernel_rfl) rfl (by kernel_rfl) (by kernel_rfl) (by kernel_rfl) (by kernel_rfl) (by kernel_rfl) (by kernel_rfl) (by kernel_rfl) (gxIdx_spec hy452).2 rfl ?_
      intro w453 sg455 ho456 M454
      refine W_conv 0 (.slice p413 s434.2.2.length c414) (.slice p413 (s434.2.2.set s434.2.1.toNat s434.1).length c414) (by kernel_rfl) (by rw [List.length_set]) ?_
      refine W_conv 12 (.slice p413 s434.2.2.length c414) (.slice p413 (s434.2.2.set s434.2.1.toNat s434.1).length c414) (by kernel_rfl) (by rw [List.length_set]) ?_
      refine W_nil ?_
      refine N_then ?_
      refine G_region ?_
      refine W_run 3 [(0, .slice p413 (s434.2.2.set s434.2.1.toNat s434.1).length c414), (1, .int .i64 (w64 (s434.1 + 1))), (5, .int .i64 s434.2.1)] w453 (by kernel_rfl) ?_
      refine W_nil ?_
      refine N_block ?_
      refine N_then ?_
      refine G_region ?_
      refine W_run 3 [(0, .slice p413 (s434.2.2.set s434.2.1.toNat s434.1).length c414), (1, .int .i64 (w64 (s434.1 + 1))), (5, .int .i64 (w64 (s434.2.1 + 1)))] w453 (by kernel_rfl) ?_
      refine W_nil ?_
      obtain rfl := Option.some.inj hm
      exact N_loop fun a ha => ⟨_, rfl, sg455, ho456, (List.length_set.trans hl446), M454.pick [0] (by kernel_rfl), ha.sub (by kernel_rfl)⟩
    · refine G_cond_f (b := (decide (s434.2.1 < (s434.2.2.length : Int)))) hc451 (by kernel_rfl) ?_
      refine G_exit ?_
      refine N_then_exit ?_
      refine N_then_exit ?_
      refine N_block_eq ?_
      obtain rfl := Option.some.inj hm
      obtain rfl := hout436 _ rfl
      exact N_meet fun a ha => ⟨sg444, ho445, hl446, M439.pick [0] (by kernel_rfl), ha.sub (by kernel_rfl)⟩
  · intro a457 w458 ⟨sg448, ho449, hl450, M459, hS460⟩
    refine N_use hS460 ?_
    have hm := hmo443
    refine N_then ?_
    refine G_seq ?_
    refine G_region ?_
    refine W_run 2 [(4, .int .i64 out441.1)] w458 (by kernel_rfl) ?_
    refine W_nil ?_
    refine N_then ?_
    refine G_ret ?_
    obtain rfl := Option.some.inj hm
    refine N_ret [.int .i64 out441.1] (RVs_cons (RV_tmp (by kernel_rfl)) RVs_nil) ?_
    exact ⟨sg448, rfl, ho449, hl450, M459.pick [0] (by kernel_rfl)⟩
theorem c_l_markRing (w : World) (x399 : Ring) (p401 : Option Addr) (c402 : Nat) (sg403 : Seg) (ho404 : ownS encI x399.Items p401 c402 sg403) (x405 : Int) (hA : ∀ q ∈ List.flatten [sg403], w.heap[q.1]? = some q.2) (hN : (idsOf [sg403]).Nodup) {r : Int × (List Int)} (hm : M.l_markRing x399 x405 = some r) :
    Calls Try.prog 19 #[.agg #[.slice p401 x399.Items.length c402, .int .i64 x399.Head, .int .i64 x399.Tail], .int .i64 x405] w fun e w' => ∃ (sg406 : Seg), e = .returned (.int .i64 r.1) ∧ ownS encI r.2 p401 c402 sg406 ∧ r.2.length = x399.Items.length ∧ Mem (idsOf [sg403]) w w' [sg406] := by
  unfold M.l_markRing at hm
  refine C_enter Try.func19 rfl (by kernel_rfl) ?_
  have M0 := Mem.start' w [sg403] hA hN
  refine G_seq ?_
  refine G_region ?_
  refine W_new (fun b => .pointer (some ⟨b, 0, none⟩)) (.cells ⟨[.slice p401 x399.Items.length c402, .int .i64 x399.Head, .int .i64 x399.Tail]⟩ 27 (0, 0)) M0 rfl (by kernel_rfl) (by kernel_rfl) ?_
  intro b408 w409 M410
  refine W_run 1 [(1, .int .i64 x405), (2, .pointer (some ⟨b408, 0, none⟩))] w409 (by kernel_rfl) ?_
  refine W_nil ?_
  refine N_then ?_
  refine G_seq ?_
  refine G_region ?_
  refine W_run 1 [(1, .int .i64 x405), (5, .pointer (some ⟨b408, 0, none⟩))] w409 (by kernel_rfl) ?_
  refine W_val (.slice p401 x399.Items.length c402) w409 (by kernel_rfl) (E_load (e := 27) (fr := (0, 0)) _ _ false 1 b408 0 [.slice p401 x399.Items.length c402, .int .i64 x399.Head, .int .i64 x399.Tail] (.slice p401 x399.Items.length c402) rfl (by kernel_rfl) (by kernel_rfl) (by kernel_rfl) (M410.blk 1 (b := b408) (o := .cells ⟨[.slice p401 x399.Items.length c402, .int .i64 x399.Head, .int .i64 x399.Tail]⟩ 27 (0, 0)) (by kernel_rfl))) ?_
  refine W_run 1 [(1, .int .i64 x405), (6, .slice p401 x399.Items.length c402), (7, .int .i64 x405)] w409 (by kernel_rfl) ?_
  obtain ⟨r461, hr461, hm⟩ := gx_bind hm
  refine W_call 28 #[.slice p401 x399.Items.length c402, .int .i64 x405] (by kernel_rfl) (by kernel_rfl) ?_
  refine (c_l_markIntS w409 x399.Items p401 c402 sg403 ho404 x405 (M410.hasPick [0]) (M410.nodupPick [0] (by kernel_rfl)) hr461).mono ?_
  rintro e_ w465 ⟨sg462, rfl, ho463, hl464, K466⟩
  have M467 := M410.callF' [0] [1] (by kernel_rfl) K466
  refine ⟨_, rfl, ?_⟩
  refine W_conv 6 (.slice p401 x399.Items.length c402) (.slice p401 r461.2.length c402) (by kernel_rfl) (by first | rw [hl464] | rw [hl464]) ?_
  have M468 : Mem (idsOf [sg403]) w w465 [[(b408, .cells ⟨[.slice p401 r461.2.length c402, .int .i64 x399.Head, .int .i64 x399.Tail]⟩ 27 (0, 0))], sg462] := by rw [hl464]; exact M467
  refine W_run 1 [(1, .int .i64 r461.1)] w465 (by kernel_rfl) ?_
  refine W_nil ?_
  refine N_then ?_
  refine G_seq ?_
  refine G_region ?_
  refine W_run 2 [(4, .int .i64 r461.1)] w465 (by kernel_rfl) ?_
  refine W_nil ?_
  refine N_then ?_
  refine G_ret ?_
  obtain rfl := Option.some.inj hm
  refine N_ret [.int .i64 r461.1] (RVs_cons (RV_tmp (by kernel_rfl)) RVs_nil) ?_
  exact ⟨sg462, rfl, ho463, (hl464.trans rfl), M468.pick [1] (by kernel_rfl)⟩
theorem c_l_heldIntS (w : World) (x487 : List Int) (p489 : Option Addr) (c490 : Nat) (h491 : rdS encI w x487 p489 c490) (x492 : Int) {r : Int} (hm : M.l_heldIntS x487 x492 = some r) :
    Calls Try.prog 29 #[.slice p489 x487.length c490, .int .i64 x492] w fun e w' => e = .returned (.int .i64 r) ∧ Mem [] w w' [] := by
  unfold M.l_heldIntS at hm
  refine C_enter Try.func29 rfl (by kernel_rfl) ?_
  have M0 := Mem.refl [] w
  refine G_seq ?_
  refine G_region ?_
  refine W_run 1 [(0, .slice p489 x487.length c490), (1, .int .i64 x492)] w (by kernel_rfl) ?_
  refine W_nil ?_
  refine N_then ?_
  refine G_seq ?_
  refine G_seq ?_
  refine G_region ?_
  refine W_run 1 [(0, .slice p489 x487.length c490), (1, .int .i64 x492), (5, .int .i64 0)] w (by kernel_rfl) ?_
  refine W_nil ?_
  refine N_then ?_
  obtain ⟨out506, hw507, hmo508⟩ := gx_bind hm
  refine G_meet (fun a w' => ∃ (o509 : Int), out506 = .inl o509 ∧ Mem [] w w' [] ∧ Sat Try.f29.ntmps [(1, .int .i64 o509)] a) ?_ ?_
  · refine G_block ?_
    refine G_while (σ := Int × Int) (ρ := (Int) ⊕ (Int)) (fun s499 a w' => Mem [] w w' [] ∧ Sat Try.f29.ntmps [(0, .slice p489 x487.length c490), (1, .int .i64 s499.1), (5, .int .i64 s499.2)] a) hw507 (fun a ha => ⟨M0.pick [] (by kernel_rfl), ha.sub (by kernel_rfl)⟩) ?_
    clear hm
    intro s499 x500 hm hout501 a502 w503 ⟨M504, hS505⟩
    refine G_use hS505 ?_
    refine G_seq ?_
    refine G_seq ?_
    refine G_region ?_
    refine W_run 4 [(0, .slice p489 x487.length c490), (1, .int .i64 s499.1), (5, .int .i64 s499.2), (9, .bool (decide (s499.2 < (x487.length : Int))))] w503 (by kernel_rfl) ?_
    refine W_nil ?_
    refine N_then ?_
    rcases gx_bif hm with ⟨hc510, hm⟩ | ⟨hc510, hm⟩
    · refine G_cond_t (b := (decide (s499.2 < (x487.length : Int)))) hc510 (by kernel_rfl) ?_
      refine G_skip ?_
      refine N_then ?_
      refine G_seq ?_
      refine G_block ?_
      refine G_seq ?_
      refine G_seq ?_
      refine G_region ?_
      refine W_run 2 [(0, .slice p489 x487.length c490), (1, .int .i64 s499.1), (5, .int .i64 s499.2), (12, .slice p489 x487.length c490), (13, .int .i64 s499.2)] w503 (by kernel_rfl) ?_
      obtain ⟨y511, hy511, hm⟩ := gx_bind hm
      refine W_val (elemP p489 (s499.2.toNat * 1)) w503 (by kernel_rfl) (E_index (E := encI) _ _ _ x487.length c490 .i64 s499.2 1 (y := y511) rfl (by kernel_rfl) (by kernel_rfl) (by kernel_rfl) (h491.mem0 M504) rfl hy511) ?_
      refine W_val (.int .i64 y511) w503 (by kernel_rfl) (E_loadE (E := encI) _ _ false 1 s499.2 0 (s499.2.toNat * 1) y511 (.int .i64 y511) rfl (by kernel_rfl) (by kernel_rfl) (by kernel_rfl) (h491.mem0 M504) hy511 rfl) ?_
      refine W_run 2 [(0, .slice p489 x487.length c490), (1, .int .i64 s499.1), (5, .int .i64 s499.2), (17, .bool (y511 != s499.1))] w503 (by kernel_rfl) ?_
      refine W_nil ?_
      refine N_then ?_
      rcases gx_bif hm with ⟨hc512, hm⟩ | ⟨hc512, hm⟩
      · refine G_cond_t (b := (y511 != s499.1)) hc512 (by kernel_rfl) ?_
        refine G_seq ?_
        refine G_region ?_
        refine W_run 1 [(4, .int .i64 (-1))] w503 (by kernel_rfl) ?_
        refine W_nil ?_
        refine N_then ?_
        refine G_ret ?_
        refine N_then_ret ?_
        refine N_block_ret ?_
        refine N_then_ret ?_
        refine N_then_ret ?_
        obtain rfl := Option.some.inj hm
        obtain rfl := hout501 _ rfl
        have hm := hmo508; simp only [Sum.elim_inr] at hm
        refine N_block_ret ?_
        refine N_meet_ret ?_
        refine N_then_ret ?_
        obtain rfl := Option.some.inj hm
        refine N_ret [.int .i64 (-1)] (RVs_cons (RV_tmp (by kernel_rfl)) RVs_nil) ?_
        exact ⟨rfl, M504.pick [] (by kernel_rfl)⟩
      · refine G_cond_f (b := (y511 != s499.1)) hc512 (by kernel_rfl) ?_
        refine G_skip ?_
        refine N_then ?_
        refine G_region ?_
        refine W_run 3 [(0, .slice p489 x487.length c490), (1, .int .i64 (w64 (s499.1 + 1))), (5, .int .i64 s499.2)] w503 (by kernel_rfl) ?_
        refine W_nil ?_
        refine N_block ?_
        refine N_then ?_
        refine G_region ?_
        refine W_run 3 [(0, .slice p489 x487.length c490), (1, .int .i64 (w64 (s499.1 + 1))), (5, .int .i64 (w64 (s499.2 + 1)))] w503 (by kernel_rfl) ?_
        refine W_nil ?_
        obtain rfl := Option.some.inj hm
        exact N_loop fun a ha => ⟨_, rfl, M504.pick [] (by kernel_rfl), ha.sub (by kernel_rfl)⟩
    · refine G_cond_f (b := (decide (s499.2 < (x487.length : Int)))) hc510 (by kernel_rfl) ?_
      refine G_exit ?_
      refine N_then_exit ?_
      refine N_then_exit ?_
      refine N_block_eq ?_
      obtain rfl := Option.some.inj hm
      obtain rfl := hout501 _ rfl
      exact N_meet fun a ha => ⟨_, rfl, M504.pick [] (by kernel_rfl), ha.sub (by kernel_rfl)⟩
  · intro a513 w514 ⟨o509, hout_, M515, hS516⟩
    refine N_use hS516 ?_
    subst hout_
    have hm := hmo508; simp only [Sum.elim_inl] at hm
    refine N_then ?_
    refine G_seq ?_
    refine G_region ?_
    refine W_run 2 [(4, .int .i64 o509)] w514 (by kernel_rfl) ?_
    refine W_nil ?_
    refine N_then ?_
    refine G_ret ?_
    obtain rfl := Option.some.inj hm
    refine N_ret [.int .i64 o509] (RVs_cons (RV_tmp (by kernel_rfl)) RVs_nil) ?_
    exact ⟨rfl, M515.pick [] (by kernel_rfl)⟩
theorem c_l_heldRing (w : World) (x477 : Ring) (p479 : Option Addr) (c480 : Nat) (h481 : rdS encI w x477.Items p479 c480) (x482 : Int) {r : Int} (hm : M.l_heldRing x477 x482 = some r) :
    Calls Try.prog 20 #[.agg #[.slice p479 x477.Items.length c480, .int .i64 x477.Head, .int .i64 x477.Tail], .int .i64 x482] w fun e w' => e = .returned (.int .i64 r) ∧ Mem [] w w' [] := by
  unfold M.l_heldRing at hm
  refine C_enter Try.func20 rfl (by kernel_rfl) ?_
  have M0 := Mem.refl [] w
  refine G_seq ?_
  refine G_region ?_
  refine W_new (fun b => .pointer (some ⟨b, 0, none⟩)) (.cells ⟨[.slice p479 x477.Items.length c480, .int .i64 x477.Head, .int .i64 x477.Tail]⟩ 27 (0, 0)) M0 rfl (by kernel_rfl) (by kernel_rfl) ?_
  intro b484 w485 M486
  refine W_run 1 [(1, .int .i64 x482), (2, .pointer (some ⟨b484, 0, none⟩))] w485 (by kernel_rfl) ?_
  refine W_nil ?_
  refine N_then ?_
  refine G_seq ?_
  refine G_region ?_
  refine W_run 1 [(1, .int .i64 x482), (5, .pointer (some ⟨b484, 0, none⟩))] w485 (by kernel_rfl) ?_
  refine W_val (.slice p479 x477.Items.length c480) w485 (by kernel_rfl) (E_load (e := 27) (fr := (0, 0)) _ _ false 1 b484 0 [.slice p479 x477.Items.length c480, .int .i64 x477.Head, .int .i64 x477.Tail] (.slice p479 x477.Items.length c480) rfl (by kernel_rfl) (by kernel_rfl) (by kernel_rfl) (M486.blk 0 (b := b484) (o := .cells ⟨[.slice p479 x477.Items.length c480, .int .i64 x477.Head, .int .i64 x477.Tail]⟩ 27 (0, 0)) (by kernel_rfl))) ?_
  refine W_run 1 [(1, .int .i64 x482), (6, .slice p479 x477.Items.length c480), (7, .int .i64 x482)] w485 (by kernel_rfl) ?_
  obtain ⟨r517, hr517, hm⟩ := gx_bind hm
  refine W_call 29 #[.slice p479 x477.Items.length c480, .int .i64 x482] (by kernel_rfl) (by kernel_rfl) ?_
  refine (c_l_heldIntS w485 x477.Items p479 c480 (h481.mem0 M486) x482 hr517).mono ?_
  rintro e_ w518 ⟨rfl, K519⟩
  have M520 := M486.call0 K519
  refine ⟨_, rfl, ?_⟩
  refine W_run 1 [(1, .int .i64 r517)] w518 (by kernel_rfl) ?_
  refine W_nil ?_
  refine N_then ?_
  refine G_seq ?_
  refine G_seq ?_
  refine G_region ?_
  refine W_run 2 [(1, .int .i64 r517), (10, .bool (decide (r517 < 0)))] w518 (by kernel_rfl) ?_
  refine W_nil ?_
  refine N_then ?_
  rcases gx_bif hm with ⟨hc521, hm⟩ | ⟨hc521, hm⟩
  · refine G_cond_t (b := (decide (r517 < 0))) hc521 (by kernel_rfl) ?_
    refine G_seq ?_
    refine G_region ?_
    refine W_run 1 [(4, .int .i64 (-1))] w518 (by kernel_rfl) ?_
    refine W_nil ?_
    refine N_then ?_
    refine G_ret ?_
    refine N_then_ret ?_
    obtain rfl := Option.some.inj hm
    refine N_ret [.int .i64 (-1)] (RVs_cons (RV_tmp (by kernel_rfl)) RVs_nil) ?_
    exact ⟨rfl, M520.pick [] (by kernel_rfl)⟩
  · refine G_cond_f (b := (decide (r517 < 0))) hc521 (by kernel_rfl) ?_
    refine G_skip ?_
    refine N_then ?_
    refine G_seq ?_
    refine G_region ?_
    refine W_run 2 [(4, .int .i64 r517)] w518 (by kernel_rfl) ?_
    refine W_nil ?_
    refine N_then ?_
    refine G_ret ?_
    obtain rfl := Option.some.inj hm
    refine N_ret [.int .i64 r517] (RVs_cons (RV_tmp (by kernel_rfl)) RVs_nil) ?_
    exact ⟨rfl, M520.pick [] (by kernel_rfl)⟩
theorem c_l_FnExactMakeRing (w : World) (x144 : Int) (x145 : Int) {r : Bool} (hm : M.l_FnExactMakeRing x144 x145 = some r) :
    Calls Try.prog 4 #[.int .i64 x144, .int .i64 x145] w fun e w' => e = .returned (.bool r) ∧ Mem [] w w' [] := by
  unfold M.l_FnExactMakeRing at hm
  refine C_enter Try.func4 rfl (by kernel_rfl) ?_
  have M0 := Mem.refl [] w
  refine G_seq ?_
  refine G_region ?_
  refine W_run 1 [(0, .int .i64 x144), (1, .int .i64 x145)] w (by kernel_rfl) ?_
  refine W_nil ?_
  refine N_then ?_
  refine G_seq ?_
  refine G_region ?_
  refine W_run 2 [(0, .int .i64 x144), (1, .int .i64 x145), (14, .int .i64 x144), (15, .int .i64 x145)] w (by kernel_rfl) ?_
  obtain ⟨r211, hr211, hm⟩ := gx_bind hm
  refine W_call 16 #[.int .i64 x144, .int .i64 x145] (by kernel_rfl) (by kernel_rfl) ?_
  refine (c_s_MakeRing w x144 x145 hr211).mono ?_
  rintro e_ w217 ⟨p213, c214, sg215, rfl, ho216, K218⟩
  have M219 := M0.call K218
  refine ⟨_, rfl, ?_⟩
  refine W_run 3 [(0, .int .i64 x144), (1, .int .i64 x145), (17, .agg #[.slice p213 r211.1.Items.length c214, .int .i64 r211.1.Head, .int .i64 r211.1.Tail]), (18, .bool r211.2)] w217 (by kernel_rfl) ?_
  refine W_new (fun b => .pointer (some ⟨b, 0, none⟩)) (.cells ⟨[.slice none 0 0, .int .i64 0, .int .i64 0]⟩ 27 (0, 0)) M219 rfl (by kernel_rfl) (by kernel_rfl) ?_
  intro b222 w223 M224
  refine W_store _ _ _ true 3 b222 0 [.slice none 0 0, .int .i64 0, .int .i64 0] 27 (.agg #[.slice p213 r211.1.Items.length c214, .int .i64 r211.1.Head, .int .i64 r211.1.Tail]) 1 [.slice p213 r211.1.Items.length c214, .int .i64 r211.1.Head, .int .i64 r211.1.Tail] M224 (by kernel_rfl) rfl (by kernel_rfl) (by kernel_rfl) (by kernel_rfl) (by kernel_rfl) (by kernel_rfl) (by kernel_rfl) (by kernel_rfl) (by kernel_rfl) ?_
  intro w225 M226
  refine W_run 1 [(0, .int .i64 x144), (1, .int .i64 x145), (5, .pointer (some ⟨b222, 0, none⟩)), (6, .bool r211.2)] w225 (by kernel_rfl) ?_
  refine W_nil ?_
  refine N_then ?_
  refine G_seq ?_
  refine G_region ?_
  refine W_run 2 [(0, .int .i64 x144), (1, .int .i64 x145), (5, .pointer (some ⟨b222, 0, none⟩)), (6, .bool r211.2), (20, .int .i64 x144), (21, .int .i64 x145)] w225 (by kernel_rfl) ?_
  obtain ⟨r296, hr296, hm⟩ := gx_bind hm
  refine W_call 17 #[.int .i64 x144, .int .i64 x145] (by kernel_rfl) (by kernel_rfl) ?_
  refine (c_i_MakeRing w225 x144 x145 hr296).mono ?_
  rintro e_ w302 ⟨p298, c299, sg300, rfl, ho301, K303⟩
  have M304 := M226.call K303
  refine ⟨_, rfl, ?_⟩
  refine W_run 3 [(0, .int .i64 x144), (1, .int .i64 x145), (5, .pointer (some ⟨b222, 0, none⟩)), (6, .bool r211.2), (23, .agg #[.slice p298 r296.1.Items.length c299, .int .i64 r296.1.Head, .int .i64 r296.1.Tail]), (24, .bool r296.2)] w302 (by kernel_rfl) ?_
  refine W_new (fun b => .pointer (some ⟨b, 0, none⟩)) (.cells ⟨[.slice none 0 0, .int .i64 0, .int .i64 0]⟩ 27 (0, 0)) M304 rfl (by kernel_rfl) (by kernel_rfl) ?_
  intro b307 w308 M309
  refine W_store _ _ _ true 3 b307 0 [.slice none 0 0, .int .i64 0, .int .i64 0] 27 (.agg #[.slice p298 r296.1.Items.length c299, .int .i64 r296.1.Head, .int .i64 r296.1.Tail]) 3 [.slice p298 r296.1.Items.length c299, .int .i64 r296.1.Head, .int .i64 r296.1.Tail] M309 (by kernel_rfl) rfl (by kernel_rfl) (by kernel_rfl) (by kernel_rfl) (by kernel_rfl) (by kernel_rfl) (by kernel_rfl) (by kernel_rfl) (by kernel_rfl) ?_
  intro w310 M311
  refine W_run 1 [(0, .int .i64 x144), (1, .int .i64 x145), (5, .pointer (some ⟨b222, 0, none⟩)), (6, .bool r211.2), (7, .pointer (some ⟨b307, 0, none⟩)), (8, .bool r296.2)] w310 (by kernel_rfl) ?_
  refine W_nil ?_
  refine N_then ?_
  refine G_seq ?_
  refine G_seq ?_
  obtain ⟨o386, ho387, hm388⟩ := gx_bind hm
  refine G_meet (fun a w' => Mem [] w w' [sg215, [(b222, .cells ⟨[.slice p213 r211.1.Items.length c214, .int .i64 r211.1.Head, .int .i64 r211.1.Tail]⟩ 27 (0, 0))], sg300, [(b307, .cells ⟨[.slice p298 r296.1.Items.length c299, .int .i64 r296.1.Head, .int .i64 r296.1.Tail]⟩ 27 (0, 0))]] ∧ Sat Try.f4.ntmps [(0, .int .i64 x144), (1, .int .i64 x145), (5, .pointer (some ⟨b222, 0, none⟩)), (6, .bool r211.2), (7, .pointer (some ⟨b307, 0, none⟩)), (33, .bool o386)] a) ?_ ?_
  · have hm := ho387
    refine G_region ?_
    refine W_val (.agg #[.slice p298 r296.1.Items.length c299, .int .i64 r296.1.Head, .int .i64 r296.1.Tail]) w310 (by kernel_rfl) (E_load (e := 27) (fr := (0, 0)) _ _ true 3 b307 0 [.slice p298 r296.1.Items.length c299, .int .i64 r296.1.Head, .int .i64 r296.1.Tail] (.agg #[.slice p298 r296.1.Items.length c299, .int .i64 r296.1.Head, .int .i64 r296.1.Tail]) rfl (by kernel_rfl) (by kernel_rfl) (by kernel_rfl) (M311.blk 3 (b := b307) (o := .cells ⟨[.slice p298 r296.1.Items.length c299, .int .i64 r296.1.Head, .int .i64 r296.1.Tail]⟩ 27 (0, 0)) (by kernel_rfl))) ?_
    refine W_val (.agg #[.slice p213 r211.1.Items.length c214, .int .i64 r211.1.Head, .int .i64 r211.1.Tail]) w310 (by kernel_rfl) (E_load (e := 27) (fr := (0, 0)) _ _ true 3 b222 0 [.slice p213 r211.1.Items.length c214, .int .i64 r211.1.Head, .int .i64 r211.1.Tail] (.agg #[.slice p213 r211.1.Items.length c214, .int .i64 r211.1.Head, .int .i64 r211.1.Tail]) rfl (by kernel_rfl) (by kernel_rfl) (by kernel_rfl) (M311.blk 1 (b := b222) (o := .cells ⟨[.slice p213 r211.1.Items.length c214, .int .i64 r211.1.Head, .int .i64 r211.1.Tail]⟩ 27 (0, 0)) (by kernel_rfl))) ?_
    obtain ⟨r389, hr389, hm⟩ := gx_bind hm
    refine W_call 18 #[.agg #[.slice p298 r296.1.Items.length c299, .int .i64 r296.1.Head, .int .i64 r296.1.Tail], .agg #[.slice p213 r211.1.Items.length c214, .int .i64 r211.1.Head, .int .i64 r211.1.Tail]] (by kernel_rfl) (by kernel_rfl) ?_
    refine (c_l_eqRing w310 r296.1 p298 c299 (ho301.rd M311 2 (by kernel_rfl)) r211.1 p213 c214 (ho216.rd M311 0 (by kernel_rfl)) hr389).mono ?_
    rintro e_ w390 ⟨rfl, K391⟩
    have M392 := M311.call0 K391
    refine ⟨_, rfl, ?_⟩
    refine W_run 2 [(0, .int .i64 x144), (1, .int .i64 x145), (5, .pointer (some ⟨b222, 0, none⟩)), (6, .bool r211.2), (7, .pointer (some ⟨b307, 0, none⟩)), (8, .bool r296.2), (29, .bool (!r389))] w390 (by kernel_rfl) ?_
    rcases gx_bif hm with ⟨hc393, hm⟩ | ⟨hc393, hm⟩
    · refine W_known 29 true (by kernel_rfl) hc393 ?_
      refine W_run 4 [(0, .int .i64 x144), (1, .int .i64 x145), (5, .pointer (some ⟨b222, 0, none⟩)), (6, .bool r211.2), (7, .pointer (some ⟨b307, 0, none⟩)), (33, .bool true)] w390 (by kernel_rfl) ?_
      refine W_nil ?_
      obtain rfl := Option.some.inj hm
      exact N_meet fun a ha => ⟨M392.pick [0, 1, 2, 3] (by kernel_rfl), ha.sub (by kernel_rfl)⟩
    · refine W_known 29 false (by kernel_rfl) hc393 ?_
      refine W_run 4 [(0, .int .i64 x144), (1, .int .i64 x145), (5, .pointer (some ⟨b222, 0, none⟩)), (6, .bool r211.2), (7, .pointer (some ⟨b307, 0, none⟩)), (33, .bool (!(r296.2 == r211.2)))] w390 (by kernel_rfl) ?_
      refine W_nil ?_
      obtain rfl := Option.some.inj hm
      exact N_meet fun a ha => ⟨M392.pick [0, 1, 2, 3] (by kernel_rfl), ha.sub (by kernel_rfl)⟩
  · intro a396 w394 ⟨M395, hS397⟩
    refine N_use hS397 ?_
    have hm := hm388
    refine N_then ?_
    rcases gx_bif hm with ⟨hc398, hm⟩ | ⟨hc398, hm⟩
    · refine G_cond_t (b := o386) hc398 (by kernel_rfl) ?_
      refine G_seq ?_
      refine G_region ?_
      refine W_run 1 [(4, .bool false)] w394 (by kernel_rfl) ?_
      refine W_nil ?_
      refine N_then ?_
      refine G_ret ?_
      refine N_then_ret ?_
      obtain rfl := Option.some.inj hm
      refine N_ret [.bool false] (RVs_cons (RV_tmp (by kernel_rfl)) RVs_nil) ?_
      exact ⟨rfl, M395.pick [] (by kernel_rfl)⟩
    · refine G_cond_f (b := o386) hc398 (by kernel_rfl) ?_
      refine G_skip ?_
      refine N_then ?_
      refine G_seq ?_
      refine G_region ?_
      refine W_run 1 [(0, .int .i64 x144), (1, .int .i64 x145), (5, .pointer (some ⟨b222, 0, none⟩)), (6, .bool r211.2), (7, .pointer (some ⟨b307, 0, none⟩)), (9, .int .i64 1)] w394 (by kernel_rfl) ?_
      refine W_nil ?_
      refine N_then ?_
      refine G_seq ?_
      refine G_region ?_
      refine W_val (.agg #[.slice p298 r296.1.Items.length c299, .int .i64 r296.1.Head, .int .i64 r296.1.Tail]) w394 (by kernel_rfl) (E_load (e := 27) (fr := (0, 0)) _ _ true 3 b307 0 [.slice p298 r296.1.Items.length c299, .int .i64 r296.1.Head, .int .i64 r296.1.Tail] (.agg #[.slice p298 r296.1.Items.length c299, .int .i64 r296.1.Head, .int .i64 r296.1.Tail]) rfl (by kernel_rfl) (by kernel_rfl) (by kernel_rfl) (M395.blk 3 (b := b307) (o := .cells ⟨[.slice p298 r296.1.Items.length c299, .int .i64 r296.1.Head, .int .i64 r296.1.Tail]⟩ 27 (0, 0)) (by kernel_rfl))) ?_
      refine W_run 1 [(0, .int .i64 x144), (1, .int .i64 x145), (5, .pointer (some ⟨b222, 0, none⟩)), (6, .bool r211.2), (7, .pointer (some ⟨b307, 0, none⟩)), (9, .int .i64 1), (34, .agg #[.slice p298 r296.1.Items.length c299, .int .i64 r296.1.Head, .int .i64 r296.1.Tail]), (35, .int .i64 1)] w394 (by kernel_rfl) ?_
      obtain ⟨r469, hr469, hm⟩ := gx_bind hm
      refine W_call 19 #[.agg #[.slice p298 r296.1.Items.length c299, .int .i64 r296.1.Head, .int .i64 r296.1.Tail], .int .i64 1] (by kernel_rfl) (by kernel_rfl) ?_
      refine (c_l_markRing w394 r296.1 p298 c299 sg300 ho301 1 (M395.hasPick [2]) (M395.nodupPick [2] (by kernel_rfl)) hr469).mono ?_
      rintro e_ w473 ⟨sg470, rfl, ho471, hl472, K474⟩
      have M475 := M395.callF' [2] [0, 1, 3] (by kernel_rfl) K474
      refine ⟨_, rfl, ?_⟩
      refine W_conv 34 (.agg #[.slice p298 r296.1.Items.length c299, .int .i64 r296.1.Head, .int .i64 r296.1.Tail]) (.agg #[.slice p298 r469.2.length c299, .int .i64 r296.1.Head, .int .i64 r296.1.Tail]) (by kernel_rfl) (by first | rw [hl472] | rw [hl472]) ?_
      have M476 : Mem [] w w473 [sg215, [(b222, .cells ⟨[.slice p213 r211.1.Items.length c214, .int .i64 r211.1.Head, .int .i64 r211.1.Tail]⟩ 27 (0, 0))], [(b307, .cells ⟨[.slice p298 r469.2.length c299, .int .i64 r296.1.Head, .int .i64 r296.1.Tail]⟩ 27 (0, 0))], sg470] := by rw [hl472]; exact M475
      refine W_run 1 [(0, .int .i64 x144), (1, .int .i64 x145), (5, .pointer (some ⟨b222, 0, none⟩)), (6, .bool r211.2), (7, .pointer (some ⟨b307, 0, none⟩)), (9, .int .i64 r469.1)] w473 (by kernel_rfl) ?_
      refine W_nil ?_
      refine N_then ?_
      refine G_seq ?_
      refine G_region ?_
      refine W_run 1 [(0, .int .i64 x144), (1, .int .i64 x145), (5, .pointer (some ⟨b222, 0, none⟩)), (6, .bool r211.2), (7, .pointer (some ⟨b307, 0, none⟩)), (9, .int .i64 r469.1), (10, .int .i64 1)] w473 (by kernel_rfl) ?_
      refine W_nil ?_
      refine N_then ?_
      refine G_seq ?_
      refine G_region ?_
      refine W_val (.agg #[.slice p298 r469.2.length c299, .int .i64 r296.1.Head, .int .i64 r296.1.Tail]) w473 (by kernel_rfl) (E_load (e := 27) (fr := (0, 0)) _ _ true 3 b307 0 [.slice p298 r469.2.length c299, .int .i64 r296.1.Head, .int .i64 r296.1.Tail] (.agg #[.slice p298 r469.2.length c299, .int .i64 r296.1.Head, .int .i64 r296.1.Tail]) rfl (by kernel_rfl) (by kernel_rfl) (by kernel_rfl) (M476.blk 2 (b := b307) (o := .cells ⟨[.slice p298 r469.2.length c299, .int .i64 r296.1.Head, .int .i64 r296.1.Tail]⟩ 27 (0, 0)) (by kernel_rfl))) ?_
      refine W_run 1 [(0, .int .i64 x144), (1, .int .i64 x145), (5, .pointer (some ⟨b222, 0, none⟩)), (6, .bool r211.2), (7, .pointer (some ⟨b307, 0, none⟩)), (9, .int .i64 r469.1), (10, .int .i64 1), (37, .agg #[.slice p298 r469.2.length c299, .int .i64 r296.1.Head, .int .i64 r296.1.Tail]), (38, .int .i64 1)] w473 (by kernel_rfl) ?_
      obtain ⟨r522, hr522, hm⟩ := gx_bind hm
      refine W_call 20 #[.agg #[.slice p298 r469.2.length c299, .int .i64 r296.1.Head, .int .i64 r296.1.Tail], .int .i64 1] (by kernel_rfl) (by kernel_rfl) ?_
      refine (c_l_heldRing w473 (⟨r469.2, r296.1.Head, r296.1.Tail⟩ : Ring) p298 c299 (ho471.rd M476 3 (by kernel_rfl)) 1 hr522).mono ?_
      rintro e_ w523 ⟨rfl, K524⟩
      have M525 := M476.call0 K524
      refine ⟨_, rfl, ?_⟩
      refine W_run 1 [(0, .int .i64 x144), (1, .int .i64 x145), (5, .pointer (some ⟨b222, 0, none⟩)), (6, .bool r211.2), (7, .pointer (some ⟨b307, 0, none⟩)), (9, .int .i64 r469.1), (10, .int .i64 r522)] w523 (by kernel_rfl) ?_
      refine W_nil ?_
      refine N_then ?_
      refine G_seq ?_
      refine G_seq ?_
      refine G_region ?_
      refine W_run 2 [(0, .int .i64 x144), (1, .int .i64 x145), (5, .pointer (some ⟨b222, 0, none⟩)), (6, .bool r211.2), (7, .pointer (some ⟨b307, 0, none⟩)), (9, .int .i64 r469.1), (10, .int .i64 r522), (41, .bool (decide (r522 < 0)))] w523 (by kernel_rfl) ?_
      refine W_nil ?_
      refine N_then ?_
      rcases gx_bif hm with ⟨hc526, hm⟩ | ⟨hc526, hm⟩
      · refine G_cond_t (b := (decide (r522 < 0))) hc526 (by kernel_rfl) ?_
        refine G_seq ?_
        refine G_region ?_
        refine W_run 1 [(4, .bool false)] w523 (by kernel_rfl) ?_
        refine W_nil ?_
        refine N_then ?_
        refine G_ret ?_
        refine N_then_ret ?_
        obtain rfl := Option.some.inj hm
        refine N_ret [.bool false] (RVs_cons (RV_tmp (by kernel_rfl)) RVs_nil) ?_
        exact ⟨rfl, M525.pick [] (by kernel_rfl)⟩
      · refine G_cond_f (b := (decide (r522 < 0))) hc526 (by kernel_rfl) ?_
        refine G_skip ?_
        refine N_then ?_
        refine G_seq ?_
        refine G_seq ?_
        refine G_region ?_
        refine W_run 3 [(0, .int .i64 x144), (1, .int .i64 x145), (5, .pointer (some ⟨b222, 0, none⟩)), (6, .bool r211.2), (7, .pointer (some ⟨b307, 0, none⟩)), (9, .int .i64 r469.1), (44, .bool (r522 != r469.1))] w523 (by kernel_rfl) ?_
        refine W_nil ?_
        refine N_then ?_
        rcases gx_bif hm with ⟨hc527, hm⟩ | ⟨hc527, hm⟩
        · refine G_cond_t (b := (r522 != r469.1)) hc527 (by kernel_rfl) ?_
          refine G_seq ?_
          refine G_region ?_
          refine W_run 1 [(4, .bool false)] w523 (by kernel_rfl) ?_
          refine W_nil ?_
          refine N_then ?_
          refine G_ret ?_
          refine N_then_ret ?_
          obtain rfl := Option.some.inj hm
          refine N_ret [.bool false] (RVs_cons (RV_tmp (by kernel_rfl)) RVs_nil) ?_
          exact ⟨rfl, M525.pick [] (by kernel_rfl)⟩
        · refine G_cond_f (b := (r522 != r469.1)) hc527 (by kernel_rfl) ?_
          refine G_skip ?_
          refine N_then ?_
          refine G_seq ?_
          refine G_region ?_
          refine W_run 2 [(5, .pointer (some ⟨b222, 0, none⟩)), (6, .bool r211.2), (7, .pointer (some ⟨b307, 0, none⟩)), (9, .int .i64 r469.1), (46, .int .i64 x144), (47, .int .i64 x145)] w523 (by kernel_rfl) ?_
          obtain ⟨r528, hr528, hm⟩ := gx_bind hm
          refine W_call 17 #[.int .i64 x144, .int .i64 x145] (by kernel_rfl) (by kernel_rfl) ?_
          refine (c_i_MakeRing w523 x144 x145 hr528).mono ?_
          rintro e_ w534 ⟨p530, c531, sg532, rfl, ho533, K535⟩
          have M536 := M525.call K535
          refine ⟨_, rfl, ?_⟩
          refine W_run 3 [(5, .pointer (some ⟨b222, 0, none⟩)), (6, .bool r211.2), (7, .pointer (some ⟨b307, 0, none⟩)), (9, .int .i64 r469.1), (49, .agg #[.slice p530 r528.1.Items.length c531, .int .i64 r528.1.Head, .int .i64 r528.1.Tail]), (50, .bool r528.2)] w534 (by kernel_rfl) ?_
          refine W_new (fun b => .pointer (some ⟨b, 0, none⟩)) (.cells ⟨[.slice none 0 0, .int .i64 0, .int .i64 0]⟩ 27 (0, 0)) M536 rfl (by kernel_rfl) (by kernel_rfl) ?_
          intro b539 w540 M541
          refine W_store _ _ _ true 3 b539 0 [.slice none 0 0, .int .i64 0, .int .i64 0] 27 (.agg #[.slice p530 r528.1.Items.length c531, .int .i64 r528.1.Head, .int .i64 r528.1.Tail]) 5 [.slice p530 r528.1.Items.length c531, .int .i64 r528.1.Head, .int .i64 r528.1.Tail] M541 (by kernel_rfl) rfl (by kernel_rfl) (by kernel_rfl) (by kernel_rfl) (by kernel_rfl) (by kernel_rfl) (by kernel_rfl) (by kernel_rfl) (by kernel_rfl) ?_
          intro w542 M543
          refine W_run 1 [(5, .pointer (some ⟨b222, 0, none⟩)), (6, .bool r211.2), (7, .pointer (some ⟨b307, 0, none⟩)), (9, .int .i64 r469.1), (11, .pointer (some ⟨b539, 0, none⟩)), (12, .bool r528.2)] w542 (by kernel_rfl) ?_
          refine W_nil ?_
          refine N_then ?_
          refine G_seq ?_
          refine G_seq ?_
          obtain ⟨o549, ho550, hm551⟩ := gx_bind hm
          refine G_meet (fun a w' => Mem [] w w' [[(b307, .cells ⟨[.slice p298 r469.2.length c299, .int .i64 r296.1.Head, .int .i64 r296.1.Tail]⟩ 27 (0, 0))], sg470] ∧ Sat Try.f4.ntmps [(7, .pointer (some ⟨b307, 0, none⟩)), (9, .int .i64 r469.1), (59, .bool o549)] a) ?_ ?_
          · have hm := ho550
            refine G_region ?_
            refine W_val (.agg #[.slice p530 r528.1.Items.length c531, .int .i64 r528.1.Head, .int .i64 r528.1.Tail]) w542 (by kernel_rfl) (E_load (e := 27) (fr := (0, 0)) _ _ true 3 b539 0 [.slice p530 r528.1.Items.length c531, .int .i64 r528.1.Head, .int .i64 r528.1.Tail] (.agg #[.slice p530 r528.1.Items.length c531, .int .i64 r528.1.Head, .int .i64 r528.1.Tail]) rfl (by kernel_rfl) (by kernel_rfl) (by kernel_rfl) (M543.blk 5 (b := b539) (o := .cells ⟨[.slice p530 r528.1.Items.length c531, .int .i64 r528.1.Head, .int .i64 r528.1.Tail]⟩ 27 (0, 0)) (by kernel_rfl))) ?_
            refine W_val (.agg #[.slice p213 r211.1.Items.length c214, .int .i64 r211.1.Head, .int .i64 r211.1.Tail]) w542 (by kernel_rfl) (E_load (e := 27) (fr := (0, 0)) _ _ true 3 b222 0 [.slice p213 r211.1.Items.length c214, .int .i64 r211.1.Head, .int .i64 r211.1.Tail] (.agg #[.slice p213 r211.1.Items.length c214, .int .i64 r211.1.Head, .int .i64 r211.1.Tail]) rfl (by kernel_rfl) (by kernel_rfl) (by kernel_rfl) (M543.blk 1 (b := b222) (o := .cells ⟨[.slice p213 r211.1.Items.length c214, .int .i64 r211.1.Head, .int .i64 r211.1.Tail]⟩ 27 (0, 0)) (by kernel_rfl))) ?_
            obtain ⟨r552, hr552, hm⟩ := gx_bind hm
            refine W_call 18 #[.agg #[.slice p530 r528.1.Items.length c531, .int .i64 r528.1.Head, .int .i64 r528.1.Tail], .agg #[.slice p213 r211.1.Items.length c214, .int .i64 r211.1.Head, .int .i64 r211.1.Tail]] (by kernel_rfl) (by kernel_rfl) ?_
            refine (c_l_eqRing w542 r528.1 p530 c531 (ho533.rd M543 4 (by kernel_rfl)) r211.1 p213 c214 (ho216.rd M543 0 (by kernel_rfl)) hr552).mono ?_
            rintro e_ w553 ⟨rfl, K554⟩
            have M555 := M543.call0 K554
            refine ⟨_, rfl, ?_⟩
            refine W_run 2 [(6, .bool r211.2), (7, .pointer (some ⟨b307, 0, none⟩)), (9, .int .i64 r469.1), (12, .bool r528.2), (55, .bool (!r552))] w553 (by kernel_rfl) ?_
            rcases gx_bif hm with ⟨hc556, hm⟩ | ⟨hc556, hm⟩
            · refine W_known 55 true (by kernel_rfl) hc556 ?_
              refine W_run 4 [(7, .pointer (some ⟨b307, 0, none⟩)), (9, .int .i64 r469.1), (59, .bool true)] w553 (by kernel_rfl) ?_
              refine W_nil ?_
              obtain rfl := Option.some.inj hm
              exact N_meet fun a ha => ⟨M555.pick [2, 3] (by kernel_rfl), ha.sub (by kernel_rfl)⟩
            · refine W_known 55 false (by kernel_rfl) hc556 ?_
              refine W_run 4 [(7, .pointer (some ⟨b307, 0, none⟩)), (9, .int .i64 r469.1), (59, .bool (!(r528.2 == r211.2)))] w553 (by kernel_rfl) ?_
              refine W_nil ?_
              obtain rfl := Option.some.inj hm
              exact N_meet fun a ha => ⟨M555.pick [2, 3] (by kernel_rfl), ha.sub (by kernel_rfl)⟩
          · intro a559 w557 ⟨M558, hS560⟩
            refine N_use hS560 ?_
            have hm := hm551
            refine N_then ?_
            rcases gx_bif hm with ⟨hc561, hm⟩ | ⟨hc561, hm⟩
            · refine G_cond_t (b := o549) hc561 (by kernel_rfl) ?_
              refine G_seq ?_
              refine G_region ?_
              refine W_run 1 [(4, .bool false)] w557 (by kernel_rfl) ?_
              refine W_nil ?_
              refine N_then ?_
              refine G_ret ?_
              refine N_then_ret ?_
              obtain rfl := Option.some.inj hm
              refine N_ret [.bool false] (RVs_cons (RV_tmp (by kernel_rfl)) RVs_nil) ?_
              exact ⟨rfl, M558.pick [] (by kernel_rfl)⟩
            · refine G_cond_f (b := o549) hc561 (by kernel_rfl) ?_
              refine G_skip ?_
              refine N_then ?_
              refine G_seq ?_
              refine G_region ?_
              refine W_run 1 [(7, .pointer (some ⟨b307, 0, none⟩)), (9, .int .i64 r469.1), (10, .int .i64 1)] w557 (by kernel_rfl) ?_
              refine W_nil ?_
              refine N_then ?_
              refine G_seq ?_
              refine G_region ?_
              refine W_val (.agg #[.slice p298 r469.2.length c299, .int .i64 r296.1.Head, .int .i64 r296.1.Tail]) w557 (by kernel_rfl) (E_load (e := 27) (fr := (0, 0)) _ _ true 3 b307 0 [.slice p298 r469.2.length c299, .int .i64 r296.1.Head, .int .i64 r296.1.Tail] (.agg #[.slice p298 r469.2.length c299, .int .i64 r296.1.Head, .int .i64 r296.1.Tail]) rfl (by kernel_rfl) (by kernel_rfl) (by kernel_rfl) (M558.blk 0 (b := b307) (o := .cells ⟨[.slice p298 r469.2.length c299, .int .i64 r296.1.Head, .int .i64 r296.1.Tail]⟩ 27 (0, 0)) (by kernel_rfl))) ?_
              refine W_run 1 [(9, .int .i64 r469.1), (10, .int .i64 1), (60, .agg #[.slice p298 r469.2.length c299, .int .i64 r296.1.Head, .int .i64 r296.1.Tail]), (61, .int .i64 1)] w557 (by kernel_rfl) ?_
              obtain ⟨r562, hr562, hm⟩ := gx_bind hm
              refine W_call 20 #[.agg #[.slice p298 r469.2.length c299, .int .i64 r296.1.Head, .int .i64 r296.1.Tail], .int .i64 1] (by kernel_rfl) (by kernel_rfl) ?_
              refine (c_l_heldRing w557 (⟨r469.2, r296.1.Head, r296.1.Tail⟩ : Ring) p298 c299 (ho471.rd M558 1 (by kernel_rfl)) 1 hr562).mono ?_
              rintro e_ w563 ⟨rfl, K564⟩
              have M565 := M558.call0 K564
              refine ⟨_, rfl, ?_⟩
              refine W_run 1 [(9, .int .i64 r469.1), (10, .int .i64 r562)] w563 (by kernel_rfl) ?_
              refine W_nil ?_
              refine N_then ?_
              refine G_seq ?_
              refine G_seq ?_
              refine G_region ?_
              refine W_run 2 [(9, .int .i64 r469.1), (10, .int .i64 r562), (64, .bool (decide (r562 < 0)))] w563 (by kernel_rfl) ?_
              refine W_nil ?_
              refine N_then ?_
              rcases gx_bif hm with ⟨hc566, hm⟩ | ⟨hc566, hm⟩
              · refine G_cond_t (b := (decide (r562 < 0))) hc566 (by kernel_rfl) ?_
                refine G_seq ?_
                refine G_region ?_
                refine W_run 1 [(4, .bool false)] w563 (by kernel_rfl) ?_
                refine W_nil ?_
                refine N_then ?_
                refine G_ret ?_
                refine N_then_ret ?_
                obtain rfl := Option.some.inj hm
                refine N_ret [.bool false] (RVs_cons (RV_tmp (by kernel_rfl)) RVs_nil) ?_
                exact ⟨rfl, M565.pick [] (by kernel_rfl)⟩
              · refine G_cond_f (b := (decide (r562 < 0))) hc566 (by kernel_rfl) ?_
                refine G_skip ?_
                refine N_then ?_
                refine G_seq ?_
                refine G_seq ?_
                refine G_region ?_
                refine W_run 3 [(67, .bool (r562 != r469.1))] w563 (by kernel_rfl) ?_
                refine W_nil ?_
                refine N_then ?_
                rcases gx_bif hm with ⟨hc567, hm⟩ | ⟨hc567, hm⟩
                · refine G_cond_t (b := (r562 != r469.1)) hc567 (by kernel_rfl) ?_
                  refine G_seq ?_
                  refine G_region ?_
                  refine W_run 1 [(4, .bool false)] w563 (by kernel_rfl) ?_
                  refine W_nil ?_
                  refine N_then ?_
                  refine G_ret ?_
                  refine N_then_ret ?_
                  obtain rfl := Option.some.inj hm
                  refine N_ret [.bool false] (RVs_cons (RV_tmp (by kernel_rfl)) RVs_nil) ?_
                  exact ⟨rfl, M565.pick [] (by kernel_rfl)⟩
                · refine G_cond_f (b := (r562 != r469.1)) hc567 (by kernel_rfl) ?_
                  refine G_skip ?_
                  refine N_then ?_
                  refine G_seq ?_
                  refine G_region ?_
                  refine W_run 1 [(4, .bool true)] w563 (by kernel_rfl) ?_
                  refine W_nil ?_
                  refine N_then ?_
                  refine G_ret ?_
                  obtain rfl := Option.some.inj hm
                  refine N_ret [.bool true] (RVs_cons (RV_tmp (by kernel_rfl)) RVs_nil) ?_
                  exact ⟨rfl, M565.pick [] (by kernel_rfl)⟩
theorem c_l_szIntS (w : World) (x587 : List Int) (p589 : Option Addr) (c590 : Nat) (h591 : rdS encI w x587 p589 c590) (x592 : Int) {r : Int} (hm : M.l_szIntS x587 x592 = some r) :
    Calls Try.prog 57 #[.slice p589 x587.length c590, .int .i64 x592] w fun e w' => e = .returned (.int .i64 r) ∧ Mem [] w w' [] := by
  unfold M.l_szIntS at hm
  refine C_enter Try.func57 rfl (by kernel_rfl) ?_
  have M0 := Mem.refl [] w
  refine G_seq ?_
  refine G_region ?_
  refine W_run 1 [(0, .slice p589 x587.length c590), (1, .int .i64 x592)] w (by kernel_rfl) ?_
  refine W_nil ?_
  refine N_then ?_
  refine G_seq ?_
  refine G_region ?_
  refine W_run 5 [(1, .int .i64 (w64 (x592 - (x587.length : Int))))] w (by kernel_rfl) ?_
  refine W_nil ?_
  refine N_then ?_
  refine G_seq ?_
  refine G_seq ?_
  refine G_region ?_
  refine W_run 2 [(1, .int .i64 (w64 (x592 - (x587.length : Int)))), (10, .bool (decide ((w64 (x592 - (x587.length : Int))) < 0)))] w (by kernel_rfl) ?_
  refine W_nil ?_
  refine N_then ?_
  rcases gx_bif hm with ⟨hc593, hm⟩ | ⟨hc593, hm⟩
  · refine G_cond_t (b := (decide ((w64 (x592 - (x587.length : Int))) < 0))) hc593 (by kernel_rfl) ?_
    refine G_seq ?_
    refine G_region ?_
    refine W_run 1 [(4, .int .i64 (-1))] w (by kernel_rfl) ?_
    refine W_nil ?_
    refine N_then ?_
    refine G_ret ?_
    refine N_then_ret ?_
    obtain rfl := Option.some.inj hm
    refine N_ret [.int .i64 (-1)] (RVs_cons (RV_tmp (by kernel_rfl)) RVs_nil) ?_
    exact ⟨rfl, M0.pick [] (by kernel_rfl)⟩
  · refine G_cond_f (b := (decide ((w64 (x592 - (x587.length : Int))) < 0))) hc593 (by kernel_rfl) ?_
    refine G_skip ?_
    refine N_then ?_
    refine G_seq ?_
    refine G_region ?_
    refine W_run 2 [(4, .int .i64 (w64 (x592 - (x587.length : Int))))] w (by kernel_rfl) ?_
    refine W_nil ?_
    refine N_then ?_
    refine G_ret ?_
    obtain rfl := Option.some.inj hm
    refine N_ret [.int .i64 (w64 (x592 - (x587.length : Int)))] (RVs_cons (RV_tmp (by kernel_rfl)) RVs_nil) ?_
    exact ⟨rfl, M0.pick [] (by kernel_rfl)⟩
theorem c_l_szRing (w : World) (x577 : Ring) (p579 : Option Addr) (c580 : Nat) (h581 : rdS encI w x577.Items p579 c580) (x582 : Int) {r : Int} (hm : M.l_szRing x577 x582 = some r) :
    Calls Try.prog 21 #[.agg #[.slice p579 x577.Items.length c580, .int .i64 x577.Head, .int .i64 x577.Tail], .int .i64 x582] w fun e w' => e = .returned (.int .i64 r) ∧ Mem [] w w' [] := by
  unfold M.l_szRing at hm
  refine C_enter Try.func21 rfl (by kernel_rfl) ?_
  have M0 := Mem.refl [] w
  refine G_seq ?_
  refine G_region ?_
  refine W_new (fun b => .pointer (some ⟨b, 0, none⟩)) (.cells ⟨[.slice p579 x577.Items.length c580, .int .i64 x577.Head, .int .i64 x577.Tail]⟩ 33 (0, 0)) M0 rfl (by kernel_rfl) (by kernel_rfl) ?_
  intro b584 w585 M586
  refine W_run 1 [(1, .int .i64 x582), (2, .pointer (some ⟨b584, 0, none⟩))] w585 (by kernel_rfl) ?_
  refine W_nil ?_
  refine N_then ?_
  refine G_seq ?_
  refine G_region ?_
  refine W_run 1 [(1, .int .i64 x582), (5, .pointer (some ⟨b584, 0, none⟩))] w585 (by kernel_rfl) ?_
  refine W_val (.slice p579 x577.Items.length c580) w585 (by kernel_rfl) (E_load (e := 33) (fr := (0, 0)) _ _ false 1 b584 0 [.slice p579 x577.Items.length c580, .int .i64 x577.Head, .int .i64 x577.Tail] (.slice p579 x577.Items.length c580) rfl (by kernel_rfl) (by kernel_rfl) (by kernel_rfl) (M586.blk 0 (b := b584) (o := .cells ⟨[.slice p579 x577.Items.length c580, .int .i64 x577.Head, .int .i64 x577.Tail]⟩ 33 (0, 0)) (by kernel_rfl))) ?_
  refine W_run 1 [(1, .int .i64 x582), (6, .slice p579 x577.Items.length c580), (7, .int .i64 x582)] w585 (by kernel_rfl) ?_
  obtain ⟨r594, hr594, hm⟩ := gx_bind hm
  refine W_call 57 #[.slice p579 x577.Items.length c580, .int .i64 x582] (by kernel_rfl) (by kernel_rfl) ?_
  refine (c_l_szIntS w585 x577.Items p579 c580 (h581.mem0 M586) x582 hr594).mono ?_
  rintro e_ w595 ⟨rfl, K596⟩
  have M597 := M586.call0 K596
  refine ⟨_, rfl, ?_⟩
  refine W_run 1 [(1, .int .i64 r594)] w595 (by kernel_rfl) ?_
  refine W_nil ?_
  refine N_then ?_
  refine G_seq ?_
  refine G_seq ?_
  refine G_region ?_
  refine W_run 2 [(1, .int .i64 r594), (10, .bool (decide (r594 < 0)))] w595 (by kernel_rfl) ?_
  refine W_nil ?_
  refine N_then ?_
  rcases gx_bif hm with ⟨hc598, hm⟩ | ⟨hc598, hm⟩
  · refine G_cond_t (b := (decide (r594 < 0))) hc598 (by kernel_rfl) ?_
    refine G_seq ?_
    refine G_region ?_
    refine W_run 1 [(4, .int .i64 (-1))] w595 (by kernel_rfl) ?_
    refine W_nil ?_
    refine N_then ?_
    refine G_ret ?_
    refine N_then_ret ?_
    obtain rfl := Option.some.inj hm
    refine N_ret [.int .i64 (-1)] (RVs_cons (RV_tmp (by kernel_rfl)) RVs_nil) ?_
    exact ⟨rfl, M597.pick [] (by kernel_rfl)⟩
  · refine G_cond_f (b := (decide (r594 < 0))) hc598 (by kernel_rfl) ?_
    refine G_skip ?_
    refine N_then ?_
    refine G_seq ?_
    refine G_region ?_
    refine W_run 2 [(4, .int .i64 r594)] w595 (by kernel_rfl) ?_
    refine W_nil ?_
    refine N_then ?_
    refine G_ret ?_
    obtain rfl := Option.some.inj hm
    refine N_ret [.int .i64 r594] (RVs_cons (RV_tmp (by kernel_rfl)) RVs_nil) ?_
    exact ⟨rfl, M597.pick [] (by kernel_rfl)⟩
theorem c_l_toIntS (w : World) (x627 : List Int) (p629 : Option Addr) (c630 : Nat) (h631 : rdS encI w x627 p629 c630) {r : (List Int)} (hm : M.l_toIntS x627 = some r) :
    Calls Try.prog 39 #[.slice p629 x627.length c630] w fun e w' => ∃ (p633 : Option Addr) (c634 : Nat) (sg635 : Seg), e = .returned (.slice p633 r.length c634) ∧ ownS encI r p633 c634 sg635 ∧ Mem [] w w' [sg635] := by
  unfold M.l_toIntS at hm
  refine C_enter Try.func39 rfl (by kernel_rfl) ?_
  have M0 := Mem.refl [] w
  refine G_seq ?_
  refine G_region ?_
  refine W_run 1 [(0, .slice p629 x627.length c630)] w (by kernel_rfl) ?_
  refine W_nil ?_
  refine N_then ?_
  refine G_seq ?_
  refine G_region ?_
  refine W_run 2 [(0, .slice p629 x627.length c630), (6, .int .i64 (x627.length : Int))] w (by kernel_rfl) ?_
  obtain ⟨mk637, hmk637, hm⟩ := gx_bind hm
  refine W_make (E := encI) _ _ _ (x627.length : Int) 8 [.int .i64 0] (0 : Int) M0 (by kernel_rfl) rfl (by kernel_rfl) (by kernel_rfl) (by kernel_rfl) (by kernel_rfl) (by kernel_rfl) hmk637 ?_
  intro p638 c639 sg640 w641 ho642 M643
  refine W_run 1 [(0, .slice p629 x627.length c630), (3, .slice p638 mk637.length c639)] w641 (by kernel_rfl) ?_
  refine W_nil ?_
  refine N_then ?_
  refine G_seq ?_
  refine G_seq ?_
  refine G_region ?_
  refine W_run 1 [(0, .slice p629 x627.length c630), (3, .slice p638 mk637.length c639), (4, .int .i64 0)] w641 (by kernel_rfl) ?_
  refine W_nil ?_
  refine N_then ?_
  obtain ⟨out668, hw669, hmo670⟩ := gx_bind hm
  refine G_meet (fun a w' => ∃ (sg674 : Seg), ownS encI out668 p638 c639 sg674 ∧ Mem [] w w' [sg674] ∧ Sat Try.f39.ntmps [(3, .slice p638 out668.length c639)] a) ?_ ?_
  · refine G_block ?_
    refine G_while (σ := Int × List Int) (ρ := List Int) (fun s661 a w' => ∃ (sg671 : Seg), ownS encI s661.2 p638 c639 sg671 ∧ Mem [] w w' [sg671] ∧ Sat Try.f39.ntmps [(0, .slice p629 x627.length c630), (3, .slice p638 s661.2.length c639), (4, .int .i64 s661.1)] a) hw669 (fun a ha => ⟨sg640, ho642, M643.pick [0] (by kernel_rfl), ha.sub (by kernel_rfl)⟩) ?_
    clear hm
    intro s661 x662 hm hout663 a664 w665 ⟨sg671, ho672, M666, hS667⟩
    refine G_use hS667 ?_
    refine G_seq ?_
    refine G_seq ?_
    refine G_region ?_
    refine W_run 4 [(0, .slice p629 x627.length c630), (3, .slice p638 s661.2.length c639), (4, .int .i64 s661.1), (11, .bool (decide (s661.1 < (x627.length : Int))))] w665 (by kernel_rfl) ?_
    refine W_nil ?_
    refine N_then ?_
    rcases gx_bif hm with ⟨hc676, hm⟩ | ⟨hc676, hm⟩
    · refine G_cond_t (b := (decide (s661.1 < (x627.length : Int)))) hc676 (by kernel_rfl) ?_
      refine G_skip ?_
      refine N_then ?_
      refine G_seq ?_
      refine G_block ?_
      refine G_region ?_
      refine W_run 4 [(0, .slice p629 x627.length c630), (3, .slice p638 s661.2.length c639), (4, .int .i64 s661.1), (14, .slice p638 s661.2.length c639), (15, .int .i64 s661.1), (16, .slice p629 x627.length c630), (17, .int .i64 s661.1)] w665 (by kernel_rfl) ?_
      obtain ⟨y677, hy677, hm⟩ := gx_bind hm
      refine W_val (elemP p629 (s661.1.toNat * 1)) w665 (by kernel_rfl) (E_index (E := encI) _ _ _ x627.length c630 .i64 s661.1 1 (y := y677) rfl (by kernel_rfl) (by kernel_rfl) (by kernel_rfl) (h631.mem0 M666) rfl hy677) ?_
      refine W_val (.int .i64 y677) w665 (by kernel_rfl) (E_loadE (E := encI) _ _ false 1 s661.1 0 (s661.1.toNat * 1) y677 (.int .i64 y677) rfl (by kernel_rfl) (by kernel_rfl) (by kernel_rfl) (h631.mem0 M666) hy677 rfl) ?_
      obtain ⟨y678, hy678, hm⟩ := gx_bind hm
      refine W_val (elemP p638 (s661.1.toNat * 1)) w665 (by kernel_rfl) (E_index (E := encI) _ _ _ s661.2.length c639 .i64 s661.1 1 (y := y678) rfl (by kernel_rfl) (by kernel_rfl) (by kernel_rfl) (ho672.rd M666 0 (by kernel_rfl)) rfl hy678) ?_
      refine W_storeE (E := encI) _ _ _ false 1 s661.1.toNat 0 (s661.1.toNat * 1) y678 y677 (.int .i64 y677) 0 M666 ho672 (by kernel_rfl) (by kernel_rfl) rfl (by kernel_rfl) (by kernel_rfl) (by kernel_rfl) (by kernel_rfl) (by kernel_rfl) (by kernel_rfl) (by kernel_rfl) (gxIdx_spec hy678).2 rfl ?_
      intro w679 sg681 ho682 M680
      refine W_conv 3 (.slice p638 s661.2.length c639) (.slice p638 (s661.2.set s661.1.toNat y677).length c639) (by kernel_rfl) (by rw [List.length_set]) ?_
      refine W_conv 14 (.slice p638 s661.2.length c639) (.slice p638 (s661.2.set s661.1.toNat y677).length c639) (by kernel_rfl) (by rw [List.length_set]) ?_
      refine W_nil ?_
      refine N_block ?_
      refine N_then ?_
      refine G_region ?_
      refine W_run 3 [(0, .slice p629 x627.length c630), (3, .slice p638 (s661.2.set s661.1.toNat y677).length c639), (4, .int .i64 (w64 (s661.1 + 1)))] w679 (by kernel_rfl) ?_
      refine W_nil ?_
      obtain rfl := Option.some.inj hm
      exact N_loop fun a ha => ⟨_, rfl, sg681, ho682, M680.pick [0] (by kernel_rfl), ha.sub (by kernel_rfl)⟩
    · refine G_cond_f (b := (decide (s661.1 < (x627.length : Int)))) hc676 (by kernel_rfl) ?_
      refine G_exit ?_
      refine N_then_exit ?_
      refine N_then_exit ?_
      refine N_block_eq ?_
      obtain rfl := Option.some.inj hm
      obtain rfl := hout663 _ rfl
      exact N_meet fun a ha => ⟨sg671, ho672, M666.pick [0] (by kernel_rfl), ha.sub (by kernel_rfl)⟩
  · intro a683 w684 ⟨sg674, ho675, M685, hS686⟩
    refine N_use hS686 ?_
    have hm := hmo670
    refine N_then ?_
    refine G_seq ?_
    refine G_region ?_
    refine W_run 2 [(2, .slice p638 out668.length c639)] w684 (by kernel_rfl) ?_
    refine W_nil ?_
    refine N_then ?_
    refine G_ret ?_
    obtain rfl := Option.some.inj hm
    refine N_ret [.slice p638 out668.length c639] (RVs_cons (RV_tmp (by kernel_rfl)) RVs_nil) ?_
    exact ⟨p638, c639, sg674, rfl, ho675, M685.pick [0] (by kernel_rfl)⟩
theorem c_l_toRing (w : World) (x604 : Ring) (p606 : Option Addr) (c607 : Nat) (h608 : rdS encI w x604.Items p606 c607) {r : Ring} (hm : M.l_toRing x604 = some r) :
    Calls Try.prog 23 #[.agg #[.slice p606 x604.Items.length c607, .int .i64 x604.Head, .int .i64 x604.Tail]] w fun e w' => ∃ (p610 : Option Addr) (c611 : Nat) (sg612 : Seg), e = .returned (.agg #[.slice p610 r.Items.length c611, .int .i64 r.Head, .int .i64 r.Tail]) ∧ ownS encI r.Items p610 c611 sg612 ∧ Mem [] w w' [sg612] := by
  unfold M.l_toRing at hm
  refine C_enter Try.func23 rfl (by kernel_rfl) ?_
  have M0 := Mem.refl [] w
  refine G_seq ?_
  refine G_region ?_
  refine W_new (fun b => .pointer (some ⟨b, 0, none⟩)) (.cells ⟨[.slice p606 x604.Items.length c607, .int .i64 x604.Head, .int .i64 x604.Tail]⟩ 33 (0, 0)) M0 rfl (by kernel_rfl) (by kernel_rfl) ?_
  intro b614 w615 M616
  refine W_new (fun b => .pointer (some ⟨b, 0, none⟩)) (.cells ⟨[.slice none 0 0, .int .i64 0, .int .i64 0]⟩ 27 (0, 0)) M616 rfl (by kernel_rfl) (by kernel_rfl) ?_
  intro b619 w620 M621
  refine W_nil ?_
  refine N_then ?_
  refine G_seq ?_
  refine G_region ?_
  refine W_new (fun b => .pointer (some ⟨b, 0, none⟩)) (.cells ⟨[.slice none 0 0, .int .i64 0, .int .i64 0]⟩ 27 (0, 0)) M621 rfl (by kernel_rfl) (by kernel_rfl) ?_
  intro b624 w625 M626
  refine W_nil ?_
  refine N_then ?_
  refine G_seq ?_
  refine G_region ?_
  refine W_run 1 [(1, .pointer (some ⟨b614, 0, none⟩)), (2, .pointer (some ⟨b619, 0, none⟩)), (3, .pointer (some ⟨b624, 0, none⟩)), (4, .pointer (some ⟨b614, 0, none⟩))] w625 (by kernel_rfl) ?_
  refine W_val (.slice p606 x604.Items.length c607) w625 (by kernel_rfl) (E_load (e := 33) (fr := (0, 0)) _ _ false 1 b614 0 [.slice p606 x604.Items.length c607, .int .i64 x604.Head, .int .i64 x604.Tail] (.slice p606 x604.Items.length c607) rfl (by kernel_rfl) (by kernel_rfl) (by kernel_rfl) (M626.blk 0 (b := b614) (o := .cells ⟨[.slice p606 x604.Items.length c607, .int .i64 x604.Head, .int .i64 x604.Tail]⟩ 33 (0, 0)) (by kernel_rfl))) ?_
  obtain ⟨r687, hr687, hm⟩ := gx_bind hm
  refine W_call 39 #[.slice p606 x604.Items.length c607] (by kernel_rfl) (by kernel_rfl) ?_
  refine (c_l_toIntS w625 x604.Items p606 c607 (h608.mem0 M626) hr687).mono ?_
  rintro e_ w693 ⟨p689, c690, sg691, rfl, ho692, K694⟩
  have M695 := M626.call K694
  refine ⟨_, rfl, ?_⟩
  refine W_run 1 [(1, .pointer (some ⟨b614, 0, none⟩)), (2, .pointer (some ⟨b619, 0, none⟩)), (3, .pointer (some ⟨b624, 0, none⟩)), (6, .slice p689 r687.length c690), (7, .pointer (some ⟨b624, 0, none⟩))] w693 (by kernel_rfl) ?_
  refine W_store _ _ _ false 1 b624 0 [.slice none 0 0, .int .i64 0, .int .i64 0] 27 (.slice p689 r687.length c690) 2 [.slice p689 r687.length c690, .int .i64 0, .int .i64 0] M695 (by kernel_rfl) rfl (by kernel_rfl) (by kernel_rfl) (by kernel_rfl) (by kernel_rfl) (by kernel_rfl) (by kernel_rfl) (by kernel_rfl) (by kernel_rfl) ?_
  intro w696 M697
  refine W_nil ?_
  refine N_then ?_
  refine G_seq ?_
  refine G_region ?_
  refine W_run 1 [(1, .pointer (some ⟨b614, 0, none⟩)), (2, .pointer (some ⟨b619, 0, none⟩)), (3, .pointer (some ⟨b624, 0, none⟩)), (8, .pointer (some ⟨b614, 1, none⟩))] w696 (by kernel_rfl) ?_
  refine W_val (.int .i64 x604.Head) w696 (by kernel_rfl) (E_load (e := 33) (fr := (0, 0)) _ _ false 1 b614 1 [.slice p606 x604.Items.length c607, .int .i64 x604.Head, .int .i64 x604.Tail] (.int .i64 x604.Head) rfl (by kernel_rfl) (by kernel_rfl) (by kernel_rfl) (M697.blk 0 (b := b614) (o := .cells ⟨[.slice p606 x604.Items.length c607, .int .i64 x604.Head, .int .i64 x604.Tail]⟩ 33 (0, 0)) (by kernel_rfl))) ?_
  refine W_run 1 [(1, .pointer (some ⟨b614, 0, none⟩)), (2, .pointer (some ⟨b619, 0, none⟩)), (3, .pointer (some ⟨b624, 0, none⟩)), (9, .int .i64 x604.Head), (10, .pointer (some ⟨b624, 1, none⟩))] w696 (by kernel_rfl) ?_
  refine W_store _ _ _ false 1 b624 1 [.slice p689 r687.length c690, .int .i64 0, .int .i64 0] 27 (.int .i64 x604.Head) 2 [.slice p689 r687.length c690, .int .i64 x604.Head, .int .i64 0] M697 (by kernel_rfl) rfl (by kernel_rfl) (by kernel_rfl) (by kernel_rfl) (by kernel_rfl) (by kernel_rfl) (by kernel_rfl) (by kernel_rfl) (by kernel_rfl) ?_
  intro w698 M699
  refine W_nil ?_
  refine N_then ?_
  refine G_seq ?_
  refine G_region ?_
  refine W_run 1 [(2, .pointer (some ⟨b619, 0, none⟩)), (3, .pointer (some ⟨b624, 0, none⟩)), (11, .pointer (some ⟨b614, 2, none⟩))] w698 (by kernel_rfl) ?_
  refine W_val (.int .i64 x604.Tail) w698 (by kernel_rfl) (E_load (e := 33) (fr := (0, 0)) _ _ false 1 b614 2 [.slice p606 x604.Items.length c607, .int .i64 x604.Head, .int .i64 x604.Tail] (.int .i64 x604.Tail) rfl (by kernel_rfl) (by kernel_rfl) (by kernel_rfl) (M699.blk 0 (b := b614) (o := .cells ⟨[.slice p606 x604.Items.length c607, .int .i64 x604.Head, .int .i64 x604.Tail]⟩ 33 (0, 0)) (by kernel_rfl))) ?_
  refine W_run 1 [(2, .pointer (some ⟨b619, 0, none⟩)), (3, .pointer (some ⟨b624, 0, none⟩)), (12, .int .i64 x604.Tail), (13, .pointer (some ⟨b624, 2, none⟩))] w698 (by kernel_rfl) ?_
  refine W_store _ _ _ false 1 b624 2 [.slice p689 r687.length c690, .int .i64 x604.Head, .int .i64 0] 27 (.int .i64 x604.Tail) 2 [.slice p689 r687.length c690, .int .i64 x604.Head, .int .i64 x604.Tail] M699 (by kernel_rfl) rfl (by kernel_rfl) (by kernel_rfl) (by kernel_rfl) (by kernel_rfl) (by kernel_rfl) (by kernel_rfl) (by kernel_rfl) (by kernel_rfl) ?_
  intro w700 M701
  refine W_nil ?_
  refine N_then ?_
  refine G_seq ?_
  refine G_region ?_
  refine W_val (.agg #[.slice p689 r687.length c690, .int .i64 x604.Head, .int .i64 x604.Tail]) w700 (by kernel_rfl) (E_load (e := 27) (fr := (0, 0)) _ _ true 3 b624 0 [.slice p689 r687.length c690, .int .i64 x604.Head, .int .i64 x604.Tail] (.agg #[.slice p689 r687.length c690, .int .i64 x604.Head, .int .i64 x604.Tail]) rfl (by kernel_rfl) (by kernel_rfl) (by kernel_rfl) (M701.blk 2 (b := b624) (o := .cells ⟨[.slice p689 r687.length c690, .int .i64 x604.Head, .int .i64 x604.Tail]⟩ 27 (0, 0)) (by kernel_rfl))) ?_
  refine W_store _ _ _ true 3 b619 0 [.slice none 0 0, .int .i64 0, .int .i64 0] 27 (.agg #[.slice p689 r687.length c690, .int .i64 x604.Head, .int .i64 x604.Tail]) 1 [.slice p689 r687.length c690, .int .i64 x604.Head, .int .i64 x604.Tail] M701 (by kernel_rfl) rfl (by kernel_rfl) (by kernel_rfl) (by kernel_rfl) (by kernel_rfl) (by kernel_rfl) (by kernel_rfl) (by kernel_rfl) (by kernel_rfl) ?_
  intro w702 M703
  refine W_nil ?_
  refine N_then ?_
  refine G_ret ?_
  obtain rfl := Option.some.inj hm
  refine N_ret [.agg #[.slice p689 r687.length c690, .int .i64 x604.Head, .int .i64 x604.Tail]] (RVs_cons (RV_cell (g := true) (k := 3) (b := b619) (off := 0) (cs := [.slice p689 r687.length c690, .int .i64 x604.Head, .int .i64 x604.Tail]) (e := 27) (fr := (0, 0)) (v := .agg #[.slice p689 r687.length c690, .int .i64 x604.Head, .int .i64 x604.Tail]) (M703.blk 1 (b := b619) (o := .cells ⟨[.slice p689 r687.length c690, .int .i64 x604.Head, .int .i64 x604.Tail]⟩ 27 (0, 0)) (by kernel_rfl)) (by kernel_rfl) (by kernel_rfl) (by kernel_rfl)) RVs_nil) ?_
  exact ⟨p689, c690, sg691, rfl, ho692, M703.pick [3] (by kernel_rfl)⟩
theorem c_s_l20Count (w : World) (x746 : Ring) (p748 : Option Addr) (c749 : Nat) (h750 : rdS encI w x746.Items p748 c749) {r : Int} (hm : M.s_l20Count x746 = some r) :
    Calls Try.prog 63 #[.agg #[.slice p748 x746.Items.length c749, .int .i64 x746.Head, .int .i64 x746.Tail]] w fun e w' => e = .returned (.int .i64 r) ∧ Mem [] w w' [] := by
  unfold M.s_l20Count at hm
  refine C_enter Try.func63 rfl (by kernel_rfl) ?_
  have M0 := Mem.refl [] w
  refine G_seq ?_
  refine G_region ?_
  refine W_new (fun b => .pointer (some ⟨b, 0, none⟩)) (.cells ⟨[.slice p748 x746.Items.length c749, .int .i64 x746.Head, .int .i64 x746.Tail]⟩ 27 (0, 0)) M0 rfl (by kernel_rfl) (by kernel_rfl) ?_
  intro b752 w753 M754
  refine W_run 1 [(1, .pointer (some ⟨b752, 0, none⟩))] w753 (by kernel_rfl) ?_
  refine W_nil ?_
  refine N_then ?_
  refine G_seq ?_
  refine G_region ?_
  refine W_run 1 [(1, .pointer (some ⟨b752, 0, none⟩)), (3, .pointer (some ⟨b752, 2, none⟩))] w753 (by kernel_rfl) ?_
  refine W_val (.int .i64 x746.Tail) w753 (by kernel_rfl) (E_load (e := 27) (fr := (0, 0)) _ _ false 1 b752 2 [.slice p748 x746.Items.length c749, .int .i64 x746.Head, .int .i64 x746.Tail] (.int .i64 x746.Tail) rfl (by kernel_rfl) (by kernel_rfl) (by kernel_rfl) (M754.blk 0 (b := b752) (o := .cells ⟨[.slice p748 x746.Items.length c749, .int .i64 x746.Head, .int .i64 x746.Tail]⟩ 27 (0, 0)) (by kernel_rfl))) ?_
  refine W_run 1 [(4, .int .i64 x746.Tail), (5, .pointer (some ⟨b752, 1, none⟩))] w753 (by kernel_rfl) ?_
  refine W_val (.int .i64 x746.Head) w753 (by kernel_rfl) (E_load (e := 27) (fr := (0, 0)) _ _ false 1 b752 1 [.slice p748 x746.Items.length c749, .int .i64 x746.Head, .int .i64 x746.Tail] (.int .i64 x746.Head) rfl (by kernel_rfl) (by kernel_rfl) (by kernel_rfl) (M754.blk 0 (b := b752) (o := .cells ⟨[.slice p748 x746.Items.length c749, .int .i64 x746.Head, .int .i64 x746.Tail]⟩ 27 (0, 0)) (by kernel_rfl))) ?_
  refine W_run 4 [(2, .int .i64 ((w64 ((w64 (x746.Tail - x746.Head)) + 65536)).tmod 65536))] w753 (by kernel_rfl) ?_
  refine W_nil ?_
  refine N_then ?_
  refine G_ret ?_
  obtain rfl := Option.some.inj hm
  refine N_ret [.int .i64 ((w64 ((w64 (x746.Tail - x746.Head)) + 65536)).tmod 65536)] (RVs_cons (RV_tmp (by kernel_rfl)) RVs_nil) ?_
  exact ⟨rfl, M754.pick [] (by kernel_rfl)⟩
theorem c_s_l20Good (w : World) (x722 : Ring) (p724 : Option Addr) (c725 : Nat) (h726 : rdS encI w x722.Items p724 c725) {r : Bool} (hm : M.s_l20Good x722 = some r) :
    Calls Try.prog 58 #[.agg #[.slice p724 x722.Items.length c725, .int .i64 x722.Head, .int .i64 x722.Tail]] w fun e w' => e = .returned (.bool r) ∧ Mem [] w w' [] := by
  unfold M.s_l20Good at hm
  refine C_enter Try.func58 rfl (by kernel_rfl) ?_
  have M0 := Mem.refl [] w
  refine G_seq ?_
  refine G_region ?_
  refine W_new (fun b => .pointer (some ⟨b, 0, none⟩)) (.cells ⟨[.slice p724 x722.Items.length c725, .int .i64 x722.Head, .int .i64 x722.Tail]⟩ 27 (0, 0)) M0 rfl (by kernel_rfl) (by kernel_rfl) ?_
  intro b728 w729 M730
  refine W_run 1 [(1, .pointer (some ⟨b728, 0, none⟩))] w729 (by kernel_rfl) ?_
  refine W_nil ?_
  refine N_then ?_
  refine G_seq ?_
  refine G_region ?_
  refine W_run 1 [(1, .pointer (some ⟨b728, 0, none⟩)), (6, .pointer (some ⟨b728, 0, none⟩))] w729 (by kernel_rfl) ?_
  refine W_val (.slice p724 x722.Items.length c725) w729 (by kernel_rfl) (E_load (e := 27) (fr := (0, 0)) _ _ false 1 b728 0 [.slice p724 x722.Items.length c725, .int .i64 x722.Head, .int .i64 x722.Tail] (.slice p724 x722.Items.length c725) rfl (by kernel_rfl) (by kernel_rfl) (by kernel_rfl) (M730.blk 0 (b := b728) (o := .cells ⟨[.slice p724 x722.Items.length c725, .int .i64 x722.Head, .int .i64 x722.Tail]⟩ 27 (0, 0)) (by kernel_rfl))) ?_
  refine W_run 2 [(1, .pointer (some ⟨b728, 0, none⟩)), (3, .int .i64 (x722.Items.length : Int))] w729 (by kernel_rfl) ?_
  refine W_nil ?_
  refine N_then ?_
  refine G_seq ?_
  refine G_seq ?_
  obtain ⟨o759, ho760, hm761⟩ := gx_bind hm
  refine G_meet (fun a w' => Mem [] w w' [[(b728, .cells ⟨[.slice p724 x722.Items.length c725, .int .i64 x722.Head, .int .i64 x722.Tail]⟩ 27 (0, 0))]] ∧ Sat Try.f58.ntmps [(1, .pointer (some ⟨b728, 0, none⟩)), (3, .int .i64 (x722.Items.length : Int)), (29, .bool o759)] a) ?_ ?_
  · have hm := ho760
    refine G_region ?_
    refine W_run 1 [(1, .pointer (some ⟨b728, 0, none⟩)), (3, .int .i64 (x722.Items.length : Int)), (9, .int .i64 (x722.Items.length : Int))] w729 (by kernel_rfl) ?_
    obtain ⟨r762, hr762, hm⟩ := gx_bind hm
    refine W_call 55 #[.int .i64 (x722.Items.length : Int)] (by kernel_rfl) (by kernel_rfl) ?_
    refine (c_s_l20Places w729 (x722.Items.length : Int) hr762).mono ?_
    rintro e_ w763 ⟨rfl, K764⟩
    have M765 := M730.call0 K764
    refine ⟨_, rfl, ?_⟩
    refine W_run 2 [(1, .pointer (some ⟨b728, 0, none⟩)), (3, .int .i64 (x722.Items.length : Int)), (12, .bool (!r762))] w763 (by kernel_rfl) ?_
    rcases gx_bif hm with ⟨hc766, hm⟩ | ⟨hc766, hm⟩
    · refine W_known 12 true (by kernel_rfl) hc766 ?_
      refine W_run 17 [(1, .pointer (some ⟨b728, 0, none⟩)), (3, .int .i64 (x722.Items.length : Int)), (29, .bool true)] w763 (by kernel_rfl) ?_
      refine W_nil ?_
      obtain rfl := Option.some.inj hm
      exact N_meet fun a ha => ⟨M765.pick [0] (by kernel_rfl), ha.sub (by kernel_rfl)⟩
    · refine W_known 12 false (by kernel_rfl) hc766 ?_
      refine W_run 1 [(1, .pointer (some ⟨b728, 0, none⟩)), (3, .int .i64 (x722.Items.length : Int)), (12, .bool false), (13, .pointer (some ⟨b728, 1, none⟩))] w763 (by kernel_rfl) ?_
      refine W_val (.int .i64 x722.Head) w763 (by kernel_rfl) (E_load (e := 27) (fr := (0, 0)) _ _ false 1 b728 1 [.slice p724 x722.Items.length c725, .int .i64 x722.Head, .int .i64 x722.Tail] (.int .i64 x722.Head) rfl (by kernel_rfl) (by kernel_rfl) (by kernel_rfl) (M765.blk 0 (b := b728) (o := .cells ⟨[.slice p724 x722.Items.length c725, .int .i64 x722.Head, .int .i64 x722.Tail]⟩ 27 (0, 0)) (by kernel_rfl))) ?_
      obtain ⟨r767, hr767, hm⟩ := gx_bind hm
      refine W_call 52 #[.int .i64 x722.Head] (by kernel_rfl) (by kernel_rfl) ?_
      refine (c_s_l2Word16 w763 x722.Head hr767).mono ?_
      rintro e_ w768 ⟨rfl, K769⟩
      have M770 := M765.call0 K769
      refine ⟨_, rfl, ?_⟩
      refine W_run 3 [(1, .pointer (some ⟨b728, 0, none⟩)), (3, .int .i64 (x722.Items.length : Int)), (18, .bool (!r767))] w768 (by kernel_rfl) ?_
      rcases gx_bif hm with ⟨hc771, hm⟩ | ⟨hc771, hm⟩
      · refine W_known 18 true (by kernel_rfl) hc771 ?_
        refine W_run 11 [(1, .pointer (some ⟨b728, 0, none⟩)), (3, .int .i64 (x722.Items.length : Int)), (29, .bool true)] w768 (by kernel_rfl) ?_
        refine W_nil ?_
        obtain rfl := Option.some.inj hm
        exact N_meet fun a ha => ⟨M770.pick [0] (by kernel_rfl), ha.sub (by kernel_rfl)⟩
      · refine W_known 18 false (by kernel_rfl) hc771 ?_
        refine W_run 1 [(1, .pointer (some ⟨b728, 0, none⟩)), (3, .int .i64 (x722.Items.length : Int)), (18, .bool false), (19, .pointer (some ⟨b728, 2, none⟩))] w768 (by kernel_rfl) ?_
        refine W_val (.int .i64 x722.Tail) w768 (by kernel_rfl) (E_load (e := 27) (fr := (0, 0)) _ _ false 1 b728 2 [.slice p724 x722.Items.length c725, .int .i64 x722.Head, .int .i64 x722.Tail] (.int .i64 x722.Tail) rfl (by kernel_rfl) (by kernel_rfl) (by kernel_rfl) (M770.blk 0 (b := b728) (o := .cells ⟨[.slice p724 x722.Items.length c725, .int .i64 x722.Head, .int .i64 x722.Tail]⟩ 27 (0, 0)) (by kernel_rfl))) ?_
        obtain ⟨r772, hr772, hm⟩ := gx_bind hm
        refine W_call 52 #[.int .i64 x722.Tail] (by kernel_rfl) (by kernel_rfl) ?_
        refine (c_s_l2Word16 w768 x722.Tail hr772).mono ?_
        rintro e_ w773 ⟨rfl, K774⟩
        have M775 := M770.call0 K774
        refine ⟨_, rfl, ?_⟩
        refine W_run 3 [(1, .pointer (some ⟨b728, 0, none⟩)), (3, .int .i64 (x722.Items.length : Int)), (24, .bool (!r772))] w773 (by kernel_rfl) ?_
        rcases gx_bif hm with ⟨hc776, hm⟩ | ⟨hc776, hm⟩
        · refine W_known 24 true (by kernel_rfl) hc776 ?_
          refine W_run 5 [(1, .pointer (some ⟨b728, 0, none⟩)), (3, .int .i64 (x722.Items.length : Int)), (29, .bool true)] w773 (by kernel_rfl) ?_
          refine W_nil ?_
          obtain rfl := Option.some.inj hm
          exact N_meet fun a ha => ⟨M775.pick [0] (by kernel_rfl), ha.sub (by kernel_rfl)⟩
        · refine W_known 24 false (by kernel_rfl) hc776 ?_
          refine W_val (.agg #[.slice p724 x722.Items.length c725, .int .i64 x722.Head, .int .i64 x722.Tail]) w773 (by kernel_rfl) (E_load (e := 27) (fr := (0, 0)) _ _ true 3 b728 0 [.slice p724 x722.Items.length c725, .int .i64 x722.Head, .int .i64 x722.Tail] (.agg #[.slice p724 x722.Items.length c725, .int .i64 x722.Head, .int .i64 x722.Tail]) rfl (by kernel_rfl) (by kernel_rfl) (by kernel_rfl) (M775.blk 0 (b := b728) (o := .cells ⟨[.slice p724 x722.Items.length c725, .int .i64 x722.Head, .int .i64 x722.Tail]⟩ 27 (0, 0)) (by kernel_rfl))) ?_
          obtain ⟨r777, hr777, hm⟩ := gx_bind hm
          refine W_call 63 #[.agg #[.slice p724 x722.Items.length c725, .int .i64 x722.Head, .int .i64 x722.Tail]] (by kernel_rfl) (by kernel_rfl) ?_
          refine (c_s_l20Count w773 x722 p724 c725 (h726.mem0 M775) hr777).mono ?_
          rintro e_ w778 ⟨rfl, K779⟩
          have M780 := M775.call0 K779
          refine ⟨_, rfl, ?_⟩
          refine W_run 3 [(1, .pointer (some ⟨b728, 0, none⟩)), (3, .int .i64 (x722.Items.length : Int)), (29, .bool (decide (r777 > (x722.Items.length : Int))))] w778 (by kernel_rfl) ?_
          refine W_nil ?_
          obtain rfl := Option.some.inj hm
          exact N_meet fun a ha => ⟨M780.pick [0] (by kernel_rfl), ha.sub (by kernel_rfl)⟩
  · intro a783 w781 ⟨M782, hS784⟩
    refine N_use hS784 ?_
    have hm := hm761
    refine N_then ?_
    rcases gx_bif hm with ⟨hc785, hm⟩ | ⟨hc785, hm⟩
    · refine G_cond_t (b := o759) hc785 (by kernel_rfl) ?_
      refine G_seq ?_
      refine G_region ?_
      refine W_run 1 [(2, .bool false)] w781 (by kernel_rfl) ?_
      refine W_nil ?_
      refine N_then ?_
      refine G_ret ?_
      refine N_then_ret ?_
      obtain rfl := Option.some.inj hm
      refine N_ret [.bool false] (RVs_cons (RV_tmp (by kernel_rfl)) RVs_nil) ?_
      exact ⟨rfl, M782.pick [] (by kernel_rfl)⟩
    · refine G_cond_f (b := o759) hc785 (by kernel_rfl) ?_
      refine G_skip ?_
      refine N_then ?_
      refine G_seq ?_
      refine G_seq ?_
      refine G_region ?_
      refine W_run 1 [(1, .pointer (some ⟨b728, 0, none⟩)), (3, .int .i64 (x722.Items.length : Int)), (4, .int .i64 0)] w781 (by kernel_rfl) ?_
      refine W_nil ?_
      refine N_then ?_
      obtain ⟨out859, hw860, hmo861⟩ := gx_bind hm
      refine G_meet (fun a w' => ∃ (o862 : Unit), out859 = .inl o862 ∧ Mem [] w w' [] ∧ Sat Try.f58.ntmps [] a) ?_ ?_
      · refine G_block ?_
        refine G_while (σ := Int) (ρ := (Unit) ⊕ (Bool)) (fun s852 a w' => Mem [] w w' [[(b728, .cells ⟨[.slice p724 x722.Items.length c725, .int .i64 x722.Head, .int .i64 x722.Tail]⟩ 27 (0, 0))]] ∧ Sat Try.f58.ntmps [(1, .pointer (some ⟨b728, 0, none⟩)), (3, .int .i64 (x722.Items.length : Int)), (4, .int .i64 s852)] a) hw860 (fun a ha => ⟨M782.pick [0] (by kernel_rfl), ha.sub (by kernel_rfl)⟩) ?_
        clear hm
        intro s852 x853 hm hout854 a855 w856 ⟨M857, hS858⟩
        refine G_use hS858 ?_
        refine G_seq ?_
        refine G_seq ?_
        refine G_region ?_
        refine W_run 3 [(1, .pointer (some ⟨b728, 0, none⟩)), (3, .int .i64 (x722.Items.length : Int)), (4, .int .i64 s852), (32, .bool (decide (s852 < (x722.Items.length : Int))))] w856 (by kernel_rfl) ?_
        refine W_nil ?_
        refine N_then ?_
        rcases gx_bif hm with ⟨hc863, hm⟩ | ⟨hc863, hm⟩
        · refine G_cond_t (b := (decide (s852 < (x722.Items.length : Int)))) hc863 (by kernel_rfl) ?_
          refine G_skip ?_
          refine N_then ?_
          refine G_seq ?_
          refine G_block ?_
          refine G_seq ?_
          refine G_quiet (by kernel_rfl) (by kernel_rfl) M857 ?_
          refine Z_runs [.pointer (some ⟨b728, 0, none⟩)] [(1, .pointer (some ⟨b728, 0, none⟩)), (3, .int .i64 (x722.Items.length : Int)), (4, .int .i64 s852), (35, .pointer (some ⟨b728, 0, none⟩))] (fun w_ => by kernel_rfl) (by kernel_rfl) ?_
          refine Z_val (.slice p724 x722.Items.length c725) (by kernel_rfl) (fun w_ M_ => (E_load (e := 27) (fr := (0, 0)) _ _ false 1 b728 0 [.slice p724 x722.Items.length c725, .int .i64 x722.Head, .int .i64 x722.Tail] (.slice p724 x722.Items.length c725) rfl (by kernel_rfl) (by kernel_rfl) (by kernel_rfl) (M_.blk 0 (b := b728) (o := .cells ⟨[.slice p724 x722.Items.length c725, .int .i64 x722.Head, .int .i64 x722.Tail]⟩ 27 (0, 0)) (by kernel_rfl)))) ?_
          refine Z_runs [.pointer (some ⟨b728, 1, none⟩)] [(1, .pointer (some ⟨b728, 0, none⟩)), (3, .int .i64 (x722.Items.length : Int)), (4, .int .i64 s852), (36, .slice p724 x722.Items.length c725), (37, .pointer (some ⟨b728, 1, none⟩))] (fun w_ => by kernel_rfl) (by kernel_rfl) ?_
          refine Z_val (.int .i64 x722.Head) (by kernel_rfl) (fun w_ M_ => (E_load (e := 27) (fr := (0, 0)) _ _ false 1 b728 1 [.slice p724 x722.Items.length c725, .int .i64 x722.Head, .int .i64 x722.Tail] (.int .i64 x722.Head) rfl (by kernel_rfl) (by kernel_rfl) (by kernel_rfl) (M_.blk 0 (b := b728) (o := .cells ⟨[.slice p724 x722.Items.length c725, .int .i64 x722.Head, .int .i64 x722.Tail]⟩ 27 (0, 0)) (by kernel_rfl)))) ?_
          refine Z_runs [.int .i64 s852, .int .i64 (w64 (x722.Head + s852)), .int .i64 (x722.Items.length : Int)] [(1, .pointer (some ⟨b728, 0, none⟩)), (3, .int .i64 (x722.Items.length : Int)), (4, .int .i64 s852), (36, .slice p724 x722.Items.length c725), (40, .int .i64 (w64 (x722.Head + s852))), (41, .int .i64 (x722.Items.length : Int))] (fun w_ => by kernel_rfl) (by kernel_rfl) ?_
          obtain ⟨q864, hq864, hm⟩ := gx_bind hm
          refine Z_val (.int .i64 q864) (by kernel_rfl) (fun w_ M_ => (E_rem _ _ _ _ (w64 (x722.Head + s852)) (x722.Items.length : Int) q864 rfl (by kernel_rfl) (by kernel_rfl) hq864)) ?_
          obtain ⟨y865, hy865, hm⟩ := gx_bind hm
          refine Z_val (elemP p724 (q864.toNat * 1)) (by kernel_rfl) (fun w_ M_ => (E_index (E := encI) _ _ _ x722.Items.length c725 .i64 q864 1 (y := y865) rfl (by kernel_rfl) (by kernel_rfl) (by kernel_rfl) (h726.mem0 M_) rfl hy865)) ?_
          refine Z_val (.int .i64 y865) (by kernel_rfl) (fun w_ M_ => (E_loadE (E := encI) _ _ false 1 q864 0 (q864.toNat * 1) y865 (.int .i64 y865) rfl (by kernel_rfl) (by kernel_rfl) (by kernel_rfl) (h726.mem0 M_) hy865 rfl)) ?_
          refine Z_runs [.int .i64 y865] [(1, .pointer (some ⟨b728, 0, none⟩)), (3, .int .i64 (x722.Items.length : Int)), (4, .int .i64 s852), (5, .int .i64 y865)] (fun w_ => by kernel_rfl) (by kernel_rfl) ?_
          refine Z_end fun w866 M867 => ?_
          refine N_then ?_
          refine G_seq ?_
          obtain ⟨o878, ho879, hm880⟩ := gx_bind hm
          refine G_meet (fun a w' => Mem [] w w' [[(b728, .cells ⟨[.slice p724 x722.Items.length c725, .int .i64 x722.Head, .int .i64 x722.Tail]⟩ 27 (0, 0))]] ∧ Sat Try.f58.ntmps [(1, .pointer (some ⟨b728, 0, none⟩)), (3, .int .i64 (x722.Items.length : Int)), (4, .int .i64 s852), (57, .bool o878)] a) ?_ ?_
          · have hm := ho879
            refine G_region ?_
            refine W_run 1 [(1, .pointer (some ⟨b728, 0, none⟩)), (3, .int .i64 (x722.Items.length : Int)), (4, .int .i64 s852), (5, .int .i64 y865), (45, .int .i64 y865)] w866 (by kernel_rfl) ?_
            obtain ⟨r881, hr881, hm⟩ := gx_bind hm
            refine W_call 52 #[.int .i64 y865] (by kernel_rfl) (by kernel_rfl) ?_
            refine (c_s_l2Word16 w866 y865 hr881).mono ?_
            rintro e_ w882 ⟨rfl, K883⟩
            have M884 := M867.call0 K883
            refine ⟨_, rfl, ?_⟩
            refine W_run 2 [(1, .pointer (some ⟨b728, 0, none⟩)), (3, .int .i64 (x722.Items.length : Int)), (4, .int .i64 s852), (5, .int .i64 y865), (48, .bool (!r881))] w882 (by kernel_rfl) ?_
            rcases gx_bif hm with ⟨hc885, hm⟩ | ⟨hc885, hm⟩
            · refine W_known 48 true (by kernel_rfl) hc885 ?_
              refine W_run 9 [(1, .pointer (some ⟨b728, 0, none⟩)), (3, .int .i64 (x722.Items.length : Int)), (4, .int .i64 s852), (49, undef), (50, undef), (51, undef), (52, undef), (53, undef), (54, undef), (55, undef), (56, undef), (57, .bool true)] w882 (by kernel_rfl) ?_
              refine W_nil ?_
              obtain rfl := Option.some.inj hm
              exact N_meet fun a ha => ⟨M884.pick [0] (by kernel_rfl), ha.sub (by kernel_rfl)⟩
            · refine W_known 48 false (by kernel_rfl) hc885 ?_
              refine W_run 1 [(1, .pointer (some ⟨b728, 0, none⟩)), (3, .int .i64 (x722.Items.length : Int)), (4, .int .i64 s852), (5, .int .i64 y865), (48, .bool false), (49, .int .i64 s852)] w882 (by kernel_rfl) ?_
              refine W_val (.agg #[.slice p724 x722.Items.length c725, .int .i64 x722.Head, .int .i64 x722.Tail]) w882 (by kernel_rfl) (E_load (e := 27) (fr := (0, 0)) _ _ true 3 b728 0 [.slice p724 x722.Items.length c725, .int .i64 x722.Head, .int .i64 x722.Tail] (.agg #[.slice p724 x722.Items.length c725, .int .i64 x722.Head, .int .i64 x722.Tail]) rfl (by kernel_rfl) (by kernel_rfl) (by kernel_rfl) (M884.blk 0 (b := b728) (o := .cells ⟨[.slice p724 x722.Items.length c725, .int .i64 x722.Head, .int .i64 x722.Tail]⟩ 27 (0, 0)) (by kernel_rfl))) ?_
              obtain ⟨r886, hr886, hm⟩ := gx_bind hm
              refine W_call 63 #[.agg #[.slice p724 x722.Items.length c725, .int .i64 x722.Head, .int .i64 x722.Tail]] (by kernel_rfl) (by kernel_rfl) ?_
              refine (c_s_l20Count w882 x722 p724 c725 (h726.mem0 M884) hr886).mono ?_
              rintro e_ w887 ⟨rfl, K888⟩
              have M889 := M884.call0 K888
              refine ⟨_, rfl, ?_⟩
              refine W_run 2 [(1, .pointer (some ⟨b728, 0, none⟩)), (3, .int .i64 (x722.Items.length : Int)), (4, .int .i64 s852), (5, .int .i64 y865), (48, .bool false), (49, .int .i64 s852), (50, .agg #[.slice p724 x722.Items.length c725, .int .i64 x722.Head, .int .i64 x722.Tail]), (51, .int .i64 r886), (52, .bool (decide (s852 ≥ r886))), (53, .bool (decide (s852 ≥ r886)))] w887 (by kernel_rfl) ?_
              rcases gx_bif hm with ⟨hc890, hm⟩ | ⟨hc890, hm⟩
              · refine W_known 53 true (by kernel_rfl) hc890 ?_
                refine W_run 4 [(1, .pointer (some ⟨b728, 0, none⟩)), (3, .int .i64 (x722.Items.length : Int)), (4, .int .i64 s852), (49, .int .i64 s852), (50, .agg #[.slice p724 x722.Items.length c725, .int .i64 x722.Head, .int .i64 x722.Tail]), (51, .int .i64 r886), (52, .bool (decide (s852 ≥ r886))), (53, .bool true), (54, .int .i64 y865), (55, .bool (y865 != 0)), (56, .bool (y865 != 0)), (57, .bool (y865 != 0))] w887 (by kernel_rfl) ?_
                refine W_nil ?_
                obtain rfl := Option.some.inj hm
                exact N_meet fun a ha => ⟨M889.pick [0] (by kernel_rfl), ha.sub (by kernel_rfl)⟩
              · refine W_known 53 false (by kernel_rfl) hc890 ?_
                refine W_run 4 [(1, .pointer (some ⟨b728, 0, none⟩)), (3, .int .i64 (x722.Items.length : Int)), (4, .int .i64 s852), (49, .int .i64 s852), (50, .agg #[.slice p724 x722.Items.length c725, .int .i64 x722.Head, .int .i64 x722.Tail]), (51, .int .i64 r886), (52, .bool (decide (s852 ≥ r886))), (53, .bool false), (54, undef), (55, undef), (56, .bool false), (57, .bool false)] w887 (by kernel_rfl) ?_
                refine W_nil ?_
                obtain rfl := Option.some.inj hm
                exact N_meet fun a ha => ⟨M889.pick [0] (by kernel_rfl), ha.sub (by kernel_rfl)⟩
          · intro a893 w891 ⟨M892, hS894⟩
            refine N_use hS894 ?_
            have hm := hm880
            refine N_then ?_
            rcases gx_bif hm with ⟨hc895, hm⟩ | ⟨hc895, hm⟩
            · refine G_cond_t (b := o878) hc895 (by kernel_rfl) ?_
              refine G_seq ?_
              refine G_region ?_
              refine W_run 1 [(2, .bool false)] w891 (by kernel_rfl) ?_
              refine W_nil ?_
              refine N_then ?_
              refine G_ret ?_
              refine N_block_ret ?_
              refine N_then_ret ?_
              refine N_then_ret ?_
              obtain rfl := Option.some.inj hm
              obtain rfl := hout854 _ rfl
              have hm := hmo861; simp only [Sum.elim_inr] at hm
              refine N_block_ret ?_
              refine N_meet_ret ?_
              refine N_then_ret ?_
              obtain rfl := Option.some.inj hm
              refine N_ret [.bool false] (RVs_cons (RV_tmp (by kernel_rfl)) RVs_nil) ?_
              exact ⟨rfl, M892.pick [] (by kernel_rfl)⟩
            · refine G_cond_f (b := o878) hc895 (by kernel_rfl) ?_
              refine G_skip ?_
              refine N_block ?_
              refine N_then ?_
              refine G_region ?_
              refine W_run 3 [(1, .pointer (some ⟨b728, 0, none⟩)), (3, .int .i64 (x722.Items.length : Int)), (4, .int .i64 (w64 (s852 + 1)))] w891 (by kernel_rfl) ?_
              refine W_nil ?_
              obtain rfl := Option.some.inj hm
              exact N_loop fun a ha => ⟨_, rfl, M892.pick [0] (by kernel_rfl), ha.sub (by kernel_rfl)⟩
        · refine G_cond_f (b := (decide (s852 < (x722.Items.length : Int)))) hc863 (by kernel_rfl) ?_
          refine G_exit ?_
          refine N_then_exit ?_
          refine N_then_exit ?_
          refine N_block_eq ?_
          obtain rfl := Option.some.inj hm
          obtain rfl := hout854 _ rfl
          exact N_meet fun a ha => ⟨_, rfl, M857.pick [] (by kernel_rfl), ha.sub (by kernel_rfl)⟩
      · intro a896 w897 ⟨o862, hout_, M898, hS899⟩
        refine N_use hS899 ?_
        subst hout_
        have hm := hmo861; simp only [Sum.elim_inl] at hm
        refine N_then ?_
        refine G_seq ?_
        refine G_region ?_
        refine W_run 1 [(2, .bool true)] w897 (by kernel_rfl) ?_
        refine W_nil ?_
        refine N_then ?_
        refine G_ret ?_
        obtain rfl := Option.some.inj hm
        refine N_ret [.bool true] (RVs_cons (RV_tmp (by kernel_rfl)) RVs_nil) ?_
        exact ⟨rfl, M898.pick [] (by kernel_rfl)⟩
theorem c_s_IsRing (w : World) (x713 : Ring) (p715 : Option Addr) (c716 : Nat) (h717 : rdS encI w x713.Items p715 c716) {r : Bool} (hm : M.s_IsRing x713 = some r) :
    Calls Try.prog 22 #[.agg #[.slice p715 x713.Items.length c716, .int .i64 x713.Head, .int .i64 x713.Tail]] w fun e w' => e = .returned (.bool r) ∧ Mem [] w w' [] := by
  unfold M.s_IsRing at hm
  refine C_enter Try.func22 rfl (by kernel_rfl) ?_
  have M0 := Mem.refl [] w
  refine G_seq ?_
  refine G_region ?_
  refine W_new (fun b => .pointer (some ⟨b, 0, none⟩)) (.cells ⟨[.slice p715 x713.Items.length c716, .int .i64 x713.Head, .int .i64 x713.Tail]⟩ 27 (0, 0)) M0 rfl (by kernel_rfl) (by kernel_rfl) ?_
  intro b719 w720 M721
  refine W_run 1 [(1, .pointer (some ⟨b719, 0, none⟩))] w720 (by kernel_rfl) ?_
  refine W_nil ?_
  refine N_then ?_
  refine G_seq ?_
  refine G_region ?_
  refine W_val (.agg #[.slice p715 x713.Items.length c716, .int .i64 x713.Head, .int .i64 x713.Tail]) w720 (by kernel_rfl) (E_load (e := 27) (fr := (0, 0)) _ _ true 3 b719 0 [.slice p715 x713.Items.length c716, .int .i64 x713.Head, .int .i64 x713.Tail] (.agg #[.slice p715 x713.Items.length c716, .int .i64 x713.Head, .int .i64 x713.Tail]) rfl (by kernel_rfl) (by kernel_rfl) (by kernel_rfl) (M721.blk 0 (b := b719) (o := .cells ⟨[.slice p715 x713.Items.length c716, .int .i64 x713.Head, .int .i64 x713.Tail]⟩ 27 (0, 0)) (by kernel_rfl))) ?_
  obtain ⟨r900, hr900, hm⟩ := gx_bind hm
  refine W_call 58 #[.agg #[.slice p715 x713.Items.length c716, .int .i64 x713.Head, .int .i64 x713.Tail]] (by kernel_rfl) (by kernel_rfl) ?_
  refine (c_s_l20Good w720 x713 p715 c716 (h717.mem0 M721) hr900).mono ?_
  rintro e_ w901 ⟨rfl, K902⟩
  have M903 := M721.call0 K902
  refine ⟨_, rfl, ?_⟩
  refine W_run 1 [(2, .bool r900)] w901 (by kernel_rfl) ?_
  refine W_nil ?_
  refine N_then ?_
  refine G_ret ?_
  obtain rfl := Option.some.inj hm
  refine N_ret [.bool r900] (RVs_cons (RV_tmp (by kernel_rfl)) RVs_nil) ?_
  exact ⟨rfl, M903.pick [] (by kernel_rfl)⟩
theorem c_i_Ring_count (w : World) (x954 : Ring) (p956 : Option Addr) (c957 : Nat) (h958 : rdS encI w x954.Items p956 c957) {r : Int} (hm : M.i_Ring_count x954 = some r) :
    Calls Try.prog 59 #[.agg #[.slice p956 x954.Items.length c957, .int .i64 x954.Head, .int .i64 x954.Tail]] w fun e w' => e = .returned (.int .i64 r) ∧ Mem [] w w' [] := by
  unfold M.i_Ring_count at hm
  refine C_enter Try.func59 rfl (by kernel_rfl) ?_
  have M0 := Mem.refl [] w
  refine G_seq ?_
  refine G_region ?_
  refine W_new (fun b => .pointer (some ⟨b, 0, none⟩)) (.cells ⟨[.slice p956 x954.Items.length c957, .int .i64 x954.Head, .int .i64 x954.Tail]⟩ 27 (0, 0)) M0 rfl (by kernel_rfl) (by kernel_rfl) ?_
  intro b960 w961 M962
  refine W_run 1 [(1, .pointer (some ⟨b960, 0, none⟩))] w961 (by kernel_rfl) ?_
  refine W_nil ?_
  refine N_then ?_
  refine G_seq ?_
  refine G_region ?_
  refine W_run 1 [(1, .pointer (some ⟨b960, 0, none⟩)), (3, .pointer (some ⟨b960, 1, none⟩))] w961 (by kernel_rfl) ?_
  refine W_val (.int .i64 x954.Head) w961 (by kernel_rfl) (E_load (e := 27) (fr := (0, 0)) _ _ false 1 b960 1 [.slice p956 x954.Items.length c957, .int .i64 x954.Head, .int .i64 x954.Tail] (.int .i64 x954.Head) rfl (by kernel_rfl) (by kernel_rfl) (by kernel_rfl) (M962.blk 0 (b := b960) (o := .cells ⟨[.slice p956 x954.Items.length c957, .int .i64 x954.Head, .int .i64 x954.Tail]⟩ 27 (0, 0)) (by kernel_rfl))) ?_
  refine W_run 1 [(4, .int .i64 x954.Head), (5, .pointer (some ⟨b960, 2, none⟩))] w961 (by kernel_rfl) ?_
  refine W_val (.int .i64 x954.Tail) w961 (by kernel_rfl) (E_load (e := 27) (fr := (0, 0)) _ _ false 1 b960 2 [.slice p956 x954.Items.length c957, .int .i64 x954.Head, .int .i64 x954.Tail] (.int .i64 x954.Tail) rfl (by kernel_rfl) (by kernel_rfl) (by kernel_rfl) (M962.blk 0 (b := b960) (o := .cells ⟨[.slice p956 x954.Items.length c957, .int .i64 x954.Head, .int .i64 x954.Tail]⟩ 27 (0, 0)) (by kernel_rfl))) ?_
  obtain ⟨r963, hr963, hm⟩ := gx_bind hm
  refine W_call 54 #[.int .i64 x954.Head, .int .i64 x954.Tail] (by kernel_rfl) (by kernel_rfl) ?_
  refine (c_i_stepsTo w961 x954.Head x954.Tail hr963).mono ?_
  rintro e_ w964 ⟨rfl, K965⟩
  have M966 := M962.call0 K965
  refine ⟨_, rfl, ?_⟩
  refine W_run 1 [(2, .int .i64 r963)] w964 (by kernel_rfl) ?_
  refine W_nil ?_
  refine N_then ?_
  refine G_ret ?_
  obtain rfl := Option.some.inj hm
  refine N_ret [.int .i64 r963] (RVs_cons (RV_tmp (by kernel_rfl)) RVs_nil) ?_
  exact ⟨rfl, M966.pick [] (by kernel_rfl)⟩
theorem c_i_IsRing (w : World) (x924 : Ring) (p926 : Option Addr) (c927 : Nat) (h928 : rdS encI w x924.Items p926 c927) {r : Bool} (hm : M.i_IsRing x924 = some r) :
    Calls Try.prog 24 #[.agg #[.slice p926 x924.Items.length c927, .int .i64 x924.Head, .int .i64 x924.Tail]] w fun e w' => e = .returned (.bool r) ∧ Mem [] w w' [] := by
  unfold M.i_IsRing at hm
  refine C_enter Try.func24 rfl (by kernel_rfl) ?_
  have M0 := Mem.refl [] w
  refine G_seq ?_
  refine G_region ?_
  refine W_new (fun b => .pointer (some ⟨b, 0, none⟩)) (.cells ⟨[.slice p926 x924.Items.length c927, .int .i64 x924.Head, .int .i64 x924.Tail]⟩ 27 (0, 0)) M0 rfl (by kernel_rfl) (by kernel_rfl) ?_
  intro b930 w931 M932
  refine W_run 1 [(1, .pointer (some ⟨b930, 0, none⟩))] w931 (by kernel_rfl) ?_
  refine W_nil ?_
  refine N_then ?_
  refine G_seq ?_
  refine G_seq ?_
  obtain ⟨o973, ho974, hm975⟩ := gx_bind hm
  refine G_meet (fun a w' => Mem [] w w' [[(b930, .cells ⟨[.slice p926 x924.Items.length c927, .int .i64 x924.Head, .int .i64 x924.Tail]⟩ 27 (0, 0))]] ∧ Sat Try.f24.ntmps [(1, .pointer (some ⟨b930, 0, none⟩)), (29, .bool o973)] a) ?_ ?_
  · have hm := ho974
    refine G_quiet (by kernel_rfl) (by kernel_rfl) M932 ?_
    refine Z_runs [.pointer (some ⟨b930, 0, none⟩)] [(1, .pointer (some ⟨b930, 0, none⟩)), (5, .pointer (some ⟨b930, 0, none⟩))] (fun w_ => by kernel_rfl) (by kernel_rfl) ?_
    refine Z_val (.slice p926 x924.Items.length c927) (by kernel_rfl) (fun w_ M_ => (E_load (e := 27) (fr := (0, 0)) _ _ false 1 b930 0 [.slice p926 x924.Items.length c927, .int .i64 x924.Head, .int .i64 x924.Tail] (.slice p926 x924.Items.length c927) rfl (by kernel_rfl) (by kernel_rfl) (by kernel_rfl) (M_.blk 0 (b := b930) (o := .cells ⟨[.slice p926 x924.Items.length c927, .int .i64 x924.Head, .int .i64 x924.Tail]⟩ 27 (0, 0)) (by kernel_rfl)))) ?_
    refine Z_runs [.int .i64 (x924.Items.length : Int)] [(1, .pointer (some ⟨b930, 0, none⟩)), (7, .int .i64 (x924.Items.length : Int))] (fun w_ => by kernel_rfl) (by kernel_rfl) ?_
    obtain ⟨r976, hr976, hm⟩ := gx_bind hm
    refine Z_call 56 #[.int .i64 (x924.Items.length : Int)] (.bool r976) (by kernel_rfl) (fun w_ => by kernel_rfl) (fun w_ M_ => (c_i_arePlaces w_ (x924.Items.length : Int) hr976).mono fun e w2_ h_ => ⟨h_.1, M_.call0 h_.2⟩) ?_
    refine Z_runs [.bool (!r976), .bool (!r976)] [(1, .pointer (some ⟨b930, 0, none⟩)), (10, .bool (!r976))] (fun w_ => by kernel_rfl) (by kernel_rfl) ?_
    rcases gx_bif hm with ⟨hc980, hm⟩ | ⟨hc980, hm⟩
    · refine Z_known 10 true (by kernel_rfl) hc980 ?_
      refine Z_runs [undef, undef, undef, undef, .bool true, .bool true, undef, undef, undef, undef, .bool true, .bool true, undef, undef, undef, undef, undef, undef, .bool true] [(1, .pointer (some ⟨b930, 0, none⟩)), (29, .bool true)] (fun w_ => by kernel_rfl) (by kernel_rfl) ?_
      refine Z_end fun w981 M982 => ?_
      obtain rfl := Option.some.inj hm
      exact N_meet fun a ha => ⟨M982.pick [0] (by kernel_rfl), ha.sub (by kernel_rfl)⟩
    · refine Z_known 10 false (by kernel_rfl) hc980 ?_
      refine Z_runs [.pointer (some ⟨b930, 1, none⟩)] [(1, .pointer (some ⟨b930, 0, none⟩)), (10, .bool false), (11, .pointer (some ⟨b930, 1, none⟩))] (fun w_ => by kernel_rfl) (by kernel_rfl) ?_
      refine Z_val (.int .i64 x924.Head) (by kernel_rfl) (fun w_ M_ => (E_load (e := 27) (fr := (0, 0)) _ _ false 1 b930 1 [.slice p926 x924.Items.length c927, .int .i64 x924.Head, .int .i64 x924.Tail] (.int .i64 x924.Head) rfl (by kernel_rfl) (by kernel_rfl) (by kernel_rfl) (M_.blk 0 (b := b930) (o := .cells ⟨[.slice p926 x924.Items.length c927, .int .i64 x924.Head, .int .i64 x924.Tail]⟩ 27 (0, 0)) (by kernel_rfl)))) ?_
      obtain ⟨r983, hr983, hm⟩ := gx_bind hm
      refine Z_call 53 #[.int .i64 x924.Head] (.bool r983) (by kernel_rfl) (fun w_ => by kernel_rfl) (fun w_ M_ => (c_i_isWord16 w_ x924.Head hr983).mono fun e w2_ h_ => ⟨h_.1, M_.call0 h_.2⟩) ?_
      refine Z_runs [.bool (!r983), .bool (!r983), .bool (!r983)] [(1, .pointer (some ⟨b930, 0, none⟩)), (16, .bool (!r983))] (fun w_ => by kernel_rfl) (by kernel_rfl) ?_
      rcases gx_bif hm with ⟨hc987, hm⟩ | ⟨hc987, hm⟩
      · refine Z_known 16 true (by kernel_rfl) hc987 ?_
        refine Z_runs [undef, undef, undef, undef, .bool true, .bool true, undef, undef, undef, undef, undef, undef, .bool true] [(1, .pointer (some ⟨b930, 0, none⟩)), (29, .bool true)] (fun w_ => by kernel_rfl) (by kernel_rfl) ?_
        refine Z_end fun w988 M989 => ?_
        obtain rfl := Option.some.inj hm
        exact N_meet fun a ha => ⟨M989.pick [0] (by kernel_rfl), ha.sub (by kernel_rfl)⟩
      · refine Z_known 16 false (by kernel_rfl) hc987 ?_
        refine Z_runs [.pointer (some ⟨b930, 2, none⟩)] [(1, .pointer (some ⟨b930, 0, none⟩)), (16, .bool false), (17, .pointer (some ⟨b930, 2, none⟩))] (fun w_ => by kernel_rfl) (by kernel_rfl) ?_
        refine Z_val (.int .i64 x924.Tail) (by kernel_rfl) (fun w_ M_ => (E_load (e := 27) (fr := (0, 0)) _ _ false 1 b930 2 [.slice p926 x924.Items.length c927, .int .i64 x924.Head, .int .i64 x924.Tail] (.int .i64 x924.Tail) rfl (by kernel_rfl) (by kernel_rfl) (by kernel_rfl) (M_.blk 0 (b := b930) (o := .cells ⟨[.slice p926 x924.Items.length c927, .int .i64 x924.Head, .int .i64 x924.Tail]⟩ 27 (0, 0)) (by kernel_rfl)))) ?_
        obtain ⟨r990, hr990, hm⟩ := gx_bind hm
        refine Z_call 53 #[.int .i64 x924.Tail] (.bool r990) (by kernel_rfl) (fun w_ => by kernel_rfl) (fun w_ M_ => (c_i_isWord16 w_ x924.Tail hr990).mono fun e w2_ h_ => ⟨h_.1, M_.call0 h_.2⟩) ?_
        refine Z_runs [.bool (!r990), .bool (!r990), .bool (!r990)] [(1, .pointer (some ⟨b930, 0, none⟩)), (22, .bool (!r990))] (fun w_ => by kernel_rfl) (by kernel_rfl) ?_
        rcases gx_bif hm with ⟨hc994, hm⟩ | ⟨hc994, hm⟩
        · refine Z_known 22 true (by kernel_rfl) hc994 ?_
          refine Z_runs [undef, undef, undef, undef, undef, undef, .bool true] [(1, .pointer (some ⟨b930, 0, none⟩)), (29, .bool true)] (fun w_ => by kernel_rfl) (by kernel_rfl) ?_
          refine Z_end fun w995 M996 => ?_
          obtain rfl := Option.some.inj hm
          exact N_meet fun a ha => ⟨M996.pick [0] (by kernel_rfl), ha.sub (by kernel_rfl)⟩
        · refine Z_known 22 false (by kernel_rfl) hc994 ?_
          refine Z_val (.agg #[.slice p926 x924.Items.length c927, .int .i64 x924.Head, .int .i64 x924.Tail]) (by kernel_rfl) (fun w_ M_ => (E_load (e := 27) (fr := (0, 0)) _ _ true 3 b930 0 [.slice p926 x924.Items.length c927, .int .i64 x924.Head, .int .i64 x924.Tail] (.agg #[.slice p926 x924.Items.length c927, .int .i64 x924.Head, .int .i64 x924.Tail]) rfl (by kernel_rfl) (by kernel_rfl) (by kernel_rfl) (M_.blk 0 (b := b930) (o := .cells ⟨[.slice p926 x924.Items.length c927, .int .i64 x924.Head, .int .i64 x924.Tail]⟩ 27 (0, 0)) (by kernel_rfl)))) ?_
          obtain ⟨r997, hr997, hm⟩ := gx_bind hm
          refine Z_call 59 #[.agg #[.slice p926 x924.Items.length c927, .int .i64 x924.Head, .int .i64 x924.Tail]] (.int .i64 r997) (by kernel_rfl) (fun w_ => by kernel_rfl) (fun w_ M_ => (c_i_Ring_count w_ x924 p926 c927 (h928.mem0 M_) hr997).mono fun e w2_ h_ => ⟨h_.1, M_.call0 h_.2⟩) ?_
          refine Z_runs [.pointer (some ⟨b930, 0, none⟩)] [(1, .pointer (some ⟨b930, 0, none⟩)), (22, .bool false), (24, .int .i64 r997), (25, .pointer (some ⟨b930, 0, none⟩))] (fun w_ => by kernel_rfl) (by kernel_rfl) ?_
          refine Z_val (.slice p926 x924.Items.length c927) (by kernel_rfl) (fun w_ M_ => (E_load (e := 27) (fr := (0, 0)) _ _ false 1 b930 0 [.slice p926 x924.Items.length c927, .int .i64 x924.Head, .int .i64 x924.Tail] (.slice p926 x924.Items.length c927) rfl (by kernel_rfl) (by kernel_rfl) (by kernel_rfl) (M_.blk 0 (b := b930) (o := .cells ⟨[.slice p926 x924.Items.length c927, .int .i64 x924.Head, .int .i64 x924.Tail]⟩ 27 (0, 0)) (by kernel_rfl)))) ?_
          refine Z_runs [.int .i64 (x924.Items.length : Int), .bool (decide (r997 > (x924.Items.length : Int))), .bool (decide (r997 > (x924.Items.length : Int)))] [(1, .pointer (some ⟨b930, 0, none⟩)), (29, .bool (decide (r997 > (x924.Items.length : Int))))] (fun w_ => by kernel_rfl) (by kernel_rfl) ?_
          refine Z_end fun w1001 M1002 => ?_
          obtain rfl := Option.some.inj hm
          exact N_meet fun a ha => ⟨M1002.pick [0] (by kernel_rfl), ha.sub (by kernel_rfl)⟩
  · intro a1005 w1003 ⟨M1004, hS1006⟩
    refine N_use hS1006 ?_
    have hm := hm975
    refine N_then ?_
    rcases gx_bif hm with ⟨hc1007, hm⟩ | ⟨hc1007, hm⟩
    · refine G_cond_t (b := o973) hc1007 (by kernel_rfl) ?_
      refine G_seq ?_
      refine G_region ?_
      refine W_run 1 [(2, .bool false)] w1003 (by kernel_rfl) ?_
      refine W_nil ?_
      refine N_then ?_
      refine G_ret ?_
      refine N_then_ret ?_
      obtain rfl := Option.some.inj hm
      refine N_ret [.bool false] (RVs_cons (RV_tmp (by kernel_rfl)) RVs_nil) ?_
      exact ⟨rfl, M1004.pick [] (by kernel_rfl)⟩
    · refine G_cond_f (b := o973) hc1007 (by kernel_rfl) ?_
      refine G_skip ?_
      refine N_then ?_
      refine G_seq ?_
      refine G_seq ?_
      refine G_region ?_
      refine W_run 1 [(1, .pointer (some ⟨b930, 0, none⟩)), (30, .pointer (some ⟨b930, 0, none⟩))] w1003 (by kernel_rfl) ?_
      refine W_val (.slice p926 x924.Items.length c927) w1003 (by kernel_rfl) (E_load (e := 27) (fr := (0, 0)) _ _ false 1 b930 0 [.slice p926 x924.Items.length c927, .int .i64 x924.Head, .int .i64 x924.Tail] (.slice p926 x924.Items.length c927) rfl (by kernel_rfl) (by kernel_rfl) (by kernel_rfl) (M1004.blk 0 (b := b930) (o := .cells ⟨[.slice p926 x924.Items.length c927, .int .i64 x924.Head, .int .i64 x924.Tail]⟩ 27 (0, 0)) (by kernel_rfl))) ?_
      refine W_run 2 [(1, .pointer (some ⟨b930, 0, none⟩)), (31, .slice p926 x924.Items.length c927), (32, .int .i64 (x924.Items.length : Int)), (33, .int .i64 0)] w1003 (by kernel_rfl) ?_
      refine W_nil ?_
      refine N_then ?_
      obtain ⟨out1119, hw1120, hmo1121⟩ := gx_bind hm
      refine G_meet (fun a w' => ∃ (o1122 : Unit), out1119 = .inl o1122 ∧ Mem [] w w' [] ∧ Sat Try.f24.ntmps [] a) ?_ ?_
      · refine G_block ?_
        refine G_while (σ := Int) (ρ := (Unit) ⊕ (Bool)) (fun s1112 a w' => Mem [] w w' [[(b930, .cells ⟨[.slice p926 x924.Items.length c927, .int .i64 x924.Head, .int .i64 x924.Tail]⟩ 27 (0, 0))]] ∧ Sat Try.f24.ntmps [(1, .pointer (some ⟨b930, 0, none⟩)), (31, .slice p926 x924.Items.length c927), (32, .int .i64 (x924.Items.length : Int)), (33, .int .i64 s1112)] a) hw1120 (fun a ha => ⟨M1004.pick [0] (by kernel_rfl), ha.sub (by kernel_rfl)⟩) ?_
        clear hm
        intro s1112 x1113 hm hout1114 a1115 w1116 ⟨M1117, hS1118⟩
        refine G_use hS1118 ?_
        refine G_seq ?_
        refine G_region ?_
        refine W_run 1 [(1, .pointer (some ⟨b930, 0, none⟩)), (31, .slice p926 x924.Items.length c927), (32, .int .i64 (x924.Items.length : Int)), (33, .int .i64 s1112), (34, .bool (decide (s1112 < (x924.Items.length : Int))))] w1116 (by kernel_rfl) ?_
        refine W_nil ?_
        refine N_then ?_
        refine G_seq ?_
        rcases gx_bif hm with ⟨hc1123, hm⟩ | ⟨hc1123, hm⟩
        · refine G_cond_t (b := (decide (s1112 < (x924.Items.length : Int)))) hc1123 (by kernel_rfl) ?_
          refine G_skip ?_
          refine N_then ?_
          refine G_seq ?_
          refine G_block ?_
          refine G_seq ?_
          refine G_region ?_
          refine W_run 1 [(1, .pointer (some ⟨b930, 0, none⟩)), (31, .slice p926 x924.Items.length c927), (32, .int .i64 (x924.Items.length : Int)), (33, .int .i64 s1112), (35, .int .i64 s1112)] w1116 (by kernel_rfl) ?_
          obtain ⟨y1124, hy1124, hm⟩ := gx_bind hm
          refine W_val (elemP p926 (s1112.toNat * 1)) w1116 (by kernel_rfl) (E_index (E := encI) _ _ _ x924.Items.length c927 .i64 s1112 1 (y := y1124) rfl (by kernel_rfl) (by kernel_rfl) (by kernel_rfl) (h928.mem0 M1117) rfl hy1124) ?_
          refine W_val (.int .i64 y1124) w1116 (by kernel_rfl) (E_loadE (E := encI) _ _ false 1 s1112 0 (s1112.toNat * 1) y1124 (.int .i64 y1124) rfl (by kernel_rfl) (by kernel_rfl) (by kernel_rfl) (h928.mem0 M1117) hy1124 rfl) ?_
          refine W_run 2 [(1, .pointer (some ⟨b930, 0, none⟩)), (3, .int .i64 s1112), (4, .int .i64 y1124), (31, .slice p926 x924.Items.length c927), (32, .int .i64 (x924.Items.length : Int)), (33, .int .i64 s1112)] w1116 (by kernel_rfl) ?_
          refine W_nil ?_
          refine N_then ?_
          refine G_seq ?_
          obtain ⟨o1146, ho1147, hm1148⟩ := gx_bind hm
          refine G_meet (fun a w' => Mem [] w w' [[(b930, .cells ⟨[.slice p926 x924.Items.length c927, .int .i64 x924.Head, .int .i64 x924.Tail]⟩ 27 (0, 0))]] ∧ Sat Try.f24.ntmps [(1, .pointer (some ⟨b930, 0, none⟩)), (31, .slice p926 x924.Items.length c927), (32, .int .i64 (x924.Items.length : Int)), (33, .int .i64 s1112), (57, .bool o1146)] a) ?_ ?_
          · have hm := ho1147
            refine G_quiet (by kernel_rfl) (by kernel_rfl) M1117 ?_
            refine Z_runs [.int .i64 y1124] [(1, .pointer (some ⟨b930, 0, none⟩)), (3, .int .i64 s1112), (4, .int .i64 y1124), (31, .slice p926 x924.Items.length c927), (32, .int .i64 (x924.Items.length : Int)), (33, .int .i64 s1112), (38, .int .i64 y1124)] (fun w_ => by kernel_rfl) (by kernel_rfl) ?_
            obtain ⟨r1149, hr1149, hm⟩ := gx_bind hm
            refine Z_call 53 #[.int .i64 y1124] (.bool r1149) (by kernel_rfl) (fun w_ => by kernel_rfl) (fun w_ M_ => (c_i_isWord16 w_ y1124 hr1149).mono fun e w2_ h_ => ⟨h_.1, M_.call0 h_.2⟩) ?_
            refine Z_runs [.bool (!r1149), .bool (!r1149)] [(1, .pointer (some ⟨b930, 0, none⟩)), (3, .int .i64 s1112), (4, .int .i64 y1124), (31, .slice p926 x924.Items.length c927), (32, .int .i64 (x924.Items.length : Int)), (33, .int .i64 s1112), (41, .bool (!r1149))] (fun w_ => by kernel_rfl) (by kernel_rfl) ?_
            rcases gx_bif hm with ⟨hc1153, hm⟩ | ⟨hc1153, hm⟩
            · refine Z_known 41 true (by kernel_rfl) hc1153 ?_
              refine Z_runs [undef, undef, undef, undef, undef, undef, undef, undef, undef, undef, undef, undef, undef, undef, undef, .bool true] [(1, .pointer (some ⟨b930, 0, none⟩)), (31, .slice p926 x924.Items.length c927), (32, .int .i64 (x924.Items.length : Int)), (33, .int .i64 s1112), (42, undef), (43, undef), (44, undef), (45, undef), (46, undef), (47, undef), (48, undef), (49, undef), (50, undef), (51, undef), (52, undef), (53, undef), (54, undef), (55, undef), (56, undef), (57, .bool true)] (fun w_ => by kernel_rfl) (by kernel_rfl) ?_
              refine Z_end fun w1154 M1155 => ?_
              obtain rfl := Option.some.inj hm
              exact N_meet fun a ha => ⟨M1155.pick [0] (by kernel_rfl), ha.sub (by kernel_rfl)⟩
            · refine Z_known 41 false (by kernel_rfl) hc1153 ?_
              refine Z_runs [.int .i64 y1124, .bool (y1124 != 0), .bool (y1124 != 0)] [(1, .pointer (some ⟨b930, 0, none⟩)), (3, .int .i64 s1112), (31, .slice p926 x924.Items.length c927), (32, .int .i64 (x924.Items.length : Int)), (33, .int .i64 s1112), (41, .bool false), (42, .int .i64 y1124), (43, .bool (y1124 != 0)), (44, .bool (y1124 != 0))] (fun w_ => by kernel_rfl) (by kernel_rfl) ?_
              rcases gx_bif hm with ⟨hc1156, hm⟩ | ⟨hc1156, hm⟩
              · refine Z_known 44 true (by kernel_rfl) hc1156 ?_
                refine Z_runs [.pointer (some ⟨b930, 1, none⟩)] [(1, .pointer (some ⟨b930, 0, none⟩)), (3, .int .i64 s1112), (31, .slice p926 x924.Items.length c927), (32, .int .i64 (x924.Items.length : Int)), (33, .int .i64 s1112), (41, .bool false), (42, .int .i64 y1124), (43, .bool (y1124 != 0)), (44, .bool true), (45, .pointer (some ⟨b930, 1, none⟩))] (fun w_ => by kernel_rfl) (by kernel_rfl) ?_
                refine Z_val (.int .i64 x924.Head) (by kernel_rfl) (fun w_ M_ => (E_load (e := 27) (fr := (0, 0)) _ _ false 1 b930 1 [.slice p926 x924.Items.length c927, .int .i64 x924.Head, .int .i64 x924.Tail] (.int .i64 x924.Head) rfl (by kernel_rfl) (by kernel_rfl) (by kernel_rfl) (M_.blk 0 (b := b930) (o := .cells ⟨[.slice p926 x924.Items.length c927, .int .i64 x924.Head, .int .i64 x924.Tail]⟩ 27 (0, 0)) (by kernel_rfl)))) ?_
                refine Z_runs [.int .i64 s1112] [(1, .pointer (some ⟨b930, 0, none⟩)), (31, .slice p926 x924.Items.length c927), (32, .int .i64 (x924.Items.length : Int)), (33, .int .i64 s1112), (41, .bool false), (42, .int .i64 y1124), (43, .bool (y1124 != 0)), (44, .bool true), (45, .pointer (some ⟨b930, 1, none⟩)), (46, .int .i64 x924.Head), (47, .int .i64 s1112)] (fun w_ => by kernel_rfl) (by kernel_rfl) ?_
                obtain ⟨r1157, hr1157, hm⟩ := gx_bind hm
                refine Z_call 54 #[.int .i64 x924.Head, .int .i64 s1112] (.int .i64 r1157) (by kernel_rfl) (fun w_ => by kernel_rfl) (fun w_ M_ => (c_i_stepsTo w_ x924.Head s1112 hr1157).mono fun e w2_ h_ => ⟨h_.1, M_.call0 h_.2⟩) ?_
                refine Z_runs [.pointer (some ⟨b930, 0, none⟩)] [(1, .pointer (some ⟨b930, 0, none⟩)), (31, .slice p926 x924.Items.length c927), (32, .int .i64 (x924.Items.length : Int)), (33, .int .i64 s1112), (41, .bool false), (42, .int .i64 y1124), (43, .bool (y1124 != 0)), (44, .bool true), (45, .pointer (some ⟨b930, 1, none⟩)), (46, .int .i64 x924.Head), (47, .int .i64 s1112), (48, .int .i64 r1157), (49, .pointer (some ⟨b930, 0, none⟩))] (fun w_ => by kernel_rfl) (by kernel_rfl) ?_
                refine Z_val (.slice p926 x924.Items.length c927) (by kernel_rfl) (fun w_ M_ => (E_load (e := 27) (fr := (0, 0)) _ _ false 1 b930 0 [.slice p926 x924.Items.length c927, .int .i64 x924.Head, .int .i64 x924.Tail] (.slice p926 x924.Items.length c927) rfl (by kernel_rfl) (by kernel_rfl) (by kernel_rfl) (M_.blk 0 (b := b930) (o := .cells ⟨[.slice p926 x924.Items.length c927, .int .i64 x924.Head, .int .i64 x924.Tail]⟩ 27 (0, 0)) (by kernel_rfl)))) ?_
                refine Z_runs [.int .i64 (x924.Items.length : Int)] [(1, .pointer (some ⟨b930, 0, none⟩)), (31, .slice p926 x924.Items.length c927), (32, .int .i64 (x924.Items.length : Int)), (33, .int .i64 s1112), (41, .bool false), (42, .int .i64 y1124), (43, .bool (y1124 != 0)), (44, .bool true), (45, .pointer (some ⟨b930, 1, none⟩)), (46, .int .i64 x924.Head), (47, .int .i64 s1112), (48, .int .i64 r1157), (49, .pointer (some ⟨b930, 0, none⟩)), (50, .slice p926 x924.Items.length c927), (51, .int .i64 (x924.Items.length : Int))] (fun w_ => by kernel_rfl) (by kernel_rfl) ?_
                obtain ⟨q1161, hq1161, hm⟩ := gx_bind hm
                refine Z_val (.int .i64 q1161) (by kernel_rfl) (fun w_ M_ => (E_rem _ _ _ _ r1157 (x924.Items.length : Int) q1161 rfl (by kernel_rfl) (by kernel_rfl) hq1161)) ?_
                refine Z_val (.agg #[.slice p926 x924.Items.length c927, .int .i64 x924.Head, .int .i64 x924.Tail]) (by kernel_rfl) (fun w_ M_ => (E_load (e := 27) (fr := (0, 0)) _ _ true 3 b930 0 [.slice p926 x924.Items.length c927, .int .i64 x924.Head, .int .i64 x924.Tail] (.agg #[.slice p926 x924.Items.length c927, .int .i64 x924.Head, .int .i64 x924.Tail]) rfl (by kernel_rfl) (by kernel_rfl) (by kernel_rfl) (M_.blk 0 (b := b930) (o := .cells ⟨[.slice p926 x924.Items.length c927, .int .i64 x924.Head, .int .i64 x924.Tail]⟩ 27 (0, 0)) (by kernel_rfl)))) ?_
                obtain ⟨r1162, hr1162, hm⟩ := gx_bind hm
                refine Z_call 59 #[.agg #[.slice p926 x924.Items.length c927, .int .i64 x924.Head, .int .i64 x924.Tail]] (.int .i64 r1162) (by kernel_rfl) (fun w_ => by kernel_rfl) (fun w_ M_ => (c_i_Ring_count w_ x924 p926 c927 (h928.mem0 M_) hr1162).mono fun e w2_ h_ => ⟨h_.1, M_.call0 h_.2⟩) ?_
                refine Z_runs [.bool (decide (q1161 ≥ r1162)), .bool (decide (q1161 ≥ r1162)), .bool (decide (q1161 ≥ r1162))] [(1, .pointer (some ⟨b930, 0, none⟩)), (31, .slice p926 x924.Items.length c927), (32, .int .i64 (x924.Items.length : Int)), (33, .int .i64 s1112), (42, .int .i64 y1124), (43, .bool (y1124 != 0)), (44, .bool true), (45, .pointer (some ⟨b930, 1, none⟩)), (46, .int .i64 x924.Head), (47, .int .i64 s1112), (48, .int .i64 r1157), (49, .pointer (some ⟨b930, 0, none⟩)), (50, .slice p926 x924.Items.length c927), (51, .int .i64 (x924.Items.length : Int)), (52, .int .i64 q1161), (53, .agg #[.slice p926 x924.Items.length c927, .int .i64 x924.Head, .int .i64 x924.Tail]), (54, .int .i64 r1162), (55, .bool (decide (q1161 ≥ r1162))), (56, .bool (decide (q1161 ≥ r1162))), (57, .bool (decide (q1161 ≥ r1162)))] (fun w_ => by kernel_rfl) (by kernel_rfl) ?_
                refine Z_end fun w1166 M1167 => ?_
                obtain rfl := Option.some.inj hm
                exact N_meet fun a ha => ⟨M1167.pick [0] (by kernel_rfl), ha.sub (by kernel_rfl)⟩
              · refine Z_known 44 false (by kernel_rfl) hc1156 ?_
                refine Z_runs [undef, undef, undef, undef, undef, undef, undef, undef, undef, undef, undef, .bool false, .bool false] [(1, .pointer (some ⟨b930, 0, none⟩)), (31, .slice p926 x924.Items.length c927), (32, .int .i64 (x924.Items.length : Int)), (33, .int .i64 s1112), (42, .int .i64 y1124), (43, .bool (y1124 != 0)), (44, .bool false), (45, undef), (46, undef), (47, undef), (48, undef), (49, undef), (50, undef), (51, undef), (52, undef), (53, undef), (54, undef), (55, undef), (56, .bool false), (57, .bool false)] (fun w_ => by kernel_rfl) (by kernel_rfl) ?_
                refine Z_end fun w1168 M1169 => ?_
                obtain rfl := Option.some.inj hm
                exact N_meet fun a ha => ⟨M1169.pick [0] (by kernel_rfl), ha.sub (by kernel_rfl)⟩
          · intro a1172 w1170 ⟨M1171, hS1173⟩
            refine N_use hS1173 ?_
            have hm := hm1148
            refine N_then ?_
            rcases gx_bif hm with ⟨hc1174, hm⟩ | ⟨hc1174, hm⟩
            · refine G_cond_t (b := o1146) hc1174 (by kernel_rfl) ?_
              refine G_seq ?_
              refine G_region ?_
              refine W_run 1 [(2, .bool false)] w1170 (by kernel_rfl) ?_
              refine W_nil ?_
              refine N_then ?_
              refine G_ret ?_
              refine N_block_ret ?_
              refine N_then_ret ?_
              refine N_then_ret ?_
              obtain rfl := Option.some.inj hm
              obtain rfl := hout1114 _ rfl
              have hm := hmo1121; simp only [Sum.elim_inr] at hm
              refine N_block_ret ?_
              refine N_meet_ret ?_
              refine N_then_ret ?_
              obtain rfl := Option.some.inj hm
              refine N_ret [.bool false] (RVs_cons (RV_tmp (by kernel_rfl)) RVs_nil) ?_
              exact ⟨rfl, M1171.pick [] (by kernel_rfl)⟩
            · refine G_cond_f (b := o1146) hc1174 (by kernel_rfl) ?_
              refine G_skip ?_
              refine N_block ?_
              refine N_then ?_
              refine G_region ?_
              refine W_run 2 [(1, .pointer (some ⟨b930, 0, none⟩)), (31, .slice p926 x924.Items.length c927), (32, .int .i64 (x924.Items.length : Int)), (33, .int .i64 (w64 (s1112 + 1)))] w1170 (by kernel_rfl) ?_
              refine W_nil ?_
              obtain rfl := Option.some.inj hm
              exact N_loop fun a ha => ⟨_, rfl, M1171.pick [0] (by kernel_rfl), ha.sub (by kernel_rfl)⟩
        · refine G_cond_f (b := (decide (s1112 < (x924.Items.length : Int)))) hc1123 (by kernel_rfl) ?_
          refine G_exit ?_
          refine N_then_exit ?_
          refine N_then_exit ?_
          refine N_block_eq ?_
          obtain rfl := Option.some.inj hm
          obtain rfl := hout1114 _ rfl
          exact N_meet fun a ha => ⟨_, rfl, M1117.pick [] (by kernel_rfl), ha.sub (by kernel_rfl)⟩
      · intro a1175 w1176 ⟨o1122, hout_, M1177, hS1178⟩
        refine N_use hS1178 ?_
        subst hout_
        have hm := hmo1121; simp only [Sum.elim_inl] at hm
        refine N_then ?_
        refine G_seq ?_
        refine G_region ?_
        refine W_run 1 [(2, .bool true)] w1176 (by kernel_rfl) ?_
        refine W_nil ?_
        refine N_then ?_
        refine G_ret ?_
        obtain rfl := Option.some.inj hm
        refine N_ret [.bool true] (RVs_cons (RV_tmp (by kernel_rfl)) RVs_nil) ?_
        exact ⟨rfl, M1177.pick [] (by kernel_rfl)⟩
theorem c_l_FnExactIsRing (w : World) (x568 : Ring) (p570 : Option Addr) (c571 : Nat) (h572 : rdS encI w x568.Items p570 c571) {r : Bool} (hm : M.l_FnExactIsRing x568 = some r) :
    Calls Try.prog 5 #[.agg #[.slice p570 x568.Items.length c571, .int .i64 x568.Head, .int .i64 x568.Tail]] w fun e w' => e = .returned (.bool r) ∧ Mem [] w w' [] := by
  unfold M.l_FnExactIsRing at hm
  refine C_enter Try.func5 rfl (by kernel_rfl) ?_
  have M0 := Mem.refl [] w
  refine G_seq ?_
  refine G_region ?_
  refine W_new (fun b => .pointer (some ⟨b, 0, none⟩)) (.cells ⟨[.slice p570 x568.Items.length c571, .int .i64 x568.Head, .int .i64 x568.Tail]⟩ 33 (0, 0)) M0 rfl (by kernel_rfl) (by kernel_rfl) ?_
  intro b574 w575 M576
  refine W_run 1 [(1, .pointer (some ⟨b574, 0, none⟩))] w575 (by kernel_rfl) ?_
  refine W_nil ?_
  refine N_then ?_
  refine G_seq ?_
  refine G_region ?_
  refine W_run 1 [(1, .pointer (some ⟨b574, 0, none⟩)), (3, .int .i64 1048576)] w575 (by kernel_rfl) ?_
  refine W_nil ?_
  refine N_then ?_
  refine G_seq ?_
  refine G_region ?_
  refine W_val (.agg #[.slice p570 x568.Items.length c571, .int .i64 x568.Head, .int .i64 x568.Tail]) w575 (by kernel_rfl) (E_load (e := 33) (fr := (0, 0)) _ _ true 3 b574 0 [.slice p570 x568.Items.length c571, .int .i64 x568.Head, .int .i64 x568.Tail] (.agg #[.slice p570 x568.Items.length c571, .int .i64 x568.Head, .int .i64 x568.Tail]) rfl (by kernel_rfl) (by kernel_rfl) (by kernel_rfl) (M576.blk 0 (b := b574) (o := .cells ⟨[.slice p570 x568.Items.length c571, .int .i64 x568.Head, .int .i64 x568.Tail]⟩ 33 (0, 0)) (by kernel_rfl))) ?_
  refine W_run 1 [(1, .pointer (some ⟨b574, 0, none⟩)), (3, .int .i64 1048576), (7, .agg #[.slice p570 x568.Items.length c571, .int .i64 x568.Head, .int .i64 x568.Tail]), (8, .int .i64 1048576)] w575 (by kernel_rfl) ?_
  obtain ⟨r599, hr599, hm⟩ := gx_bind hm
  refine W_call 21 #[.agg #[.slice p570 x568.Items.length c571, .int .i64 x568.Head, .int .i64 x568.Tail], .int .i64 1048576] (by kernel_rfl) (by kernel_rfl) ?_
  refine (c_l_szRing w575 x568 p570 c571 (h572.mem0 M576) 1048576 hr599).mono ?_
  rintro e_ w600 ⟨rfl, K601⟩
  have M602 := M576.call0 K601
  refine ⟨_, rfl, ?_⟩
  refine W_run 1 [(1, .pointer (some ⟨b574, 0, none⟩)), (3, .int .i64 r599)] w600 (by kernel_rfl) ?_
  refine W_nil ?_
  refine N_then ?_
  refine G_seq ?_
  refine G_seq ?_
  refine G_region ?_
  refine W_run 2 [(1, .pointer (some ⟨b574, 0, none⟩)), (11, .bool (decide (r599 < 0)))] w600 (by kernel_rfl) ?_
  refine W_nil ?_
  refine N_then ?_
  rcases gx_bif hm with ⟨hc603, hm⟩ | ⟨hc603, hm⟩
  · refine G_cond_t (b := (decide (r599 < 0))) hc603 (by kernel_rfl) ?_
    refine G_seq ?_
    refine G_region ?_
    refine W_run 1 [(2, .bool true)] w600 (by kernel_rfl) ?_
    refine W_nil ?_
    refine N_then ?_
    refine G_ret ?_
    refine N_then_ret ?_
    obtain rfl := Option.some.inj hm
    refine N_ret [.bool true] (RVs_cons (RV_tmp (by kernel_rfl)) RVs_nil) ?_
    exact ⟨rfl, M602.pick [] (by kernel_rfl)⟩
  · refine G_cond_f (b := (decide (r599 < 0))) hc603 (by kernel_rfl) ?_
    refine G_skip ?_
    refine N_then ?_
    refine G_seq ?_
    refine G_region ?_
    refine W_val (.agg #[.slice p570 x568.Items.length c571, .int .i64 x568.Head, .int .i64 x568.Tail]) w600 (by kernel_rfl) (E_load (e := 33) (fr := (0, 0)) _ _ true 3 b574 0 [.slice p570 x568.Items.length c571, .int .i64 x568.Head, .int .i64 x568.Tail] (.agg #[.slice p570 x568.Items.length c571, .int .i64 x568.Head, .int .i64 x568.Tail]) rfl (by kernel_rfl) (by kernel_rfl) (by kernel_rfl) (M602.blk 0 (b := b574) (o := .cells ⟨[.slice p570 x568.Items.length c571, .int .i64 x568.Head, .int .i64 x568.Tail]⟩ 33 (0, 0)) (by kernel_rfl))) ?_
    obtain ⟨r704, hr704, hm⟩ := gx_bind hm
    refine W_call 23 #[.agg #[.slice p570 x568.Items.length c571, .int .i64 x568.Head, .int .i64 x568.Tail]] (by kernel_rfl) (by kernel_rfl) ?_
    refine (c_l_toRing w600 x568 p570 c571 (h572.mem0 M602) hr704).mono ?_
    rintro e_ w710 ⟨p706, c707, sg708, rfl, ho709, K711⟩
    have M712 := M602.call K711
    refine ⟨_, rfl, ?_⟩
    obtain ⟨r904, hr904, hm⟩ := gx_bind hm
    refine W_call 22 #[.agg #[.slice p706 r704.Items.length c707, .int .i64 r704.Head, .int .i64 r704.Tail]] (by kernel_rfl) (by kernel_rfl) ?_
    refine (c_s_IsRing w710 r704 p706 c707 (ho709.rd M712 1 (by kernel_rfl)) hr904).mono ?_
    rintro e_ w905 ⟨rfl, K906⟩
    have M907 := M712.call0 K906
    refine ⟨_, rfl, ?_⟩
    refine W_run 1 [(1, .pointer (some ⟨b574, 0, none⟩)), (4, .bool r904)] w905 (by kernel_rfl) ?_
    refine W_nil ?_
    refine N_then ?_
    refine G_seq ?_
    refine G_region ?_
    refine W_val (.agg #[.slice p570 x568.Items.length c571, .int .i64 x568.Head, .int .i64 x568.Tail]) w905 (by kernel_rfl) (E_load (e := 33) (fr := (0, 0)) _ _ true 3 b574 0 [.slice p570 x568.Items.length c571, .int .i64 x568.Head, .int .i64 x568.Tail] (.agg #[.slice p570 x568.Items.length c571, .int .i64 x568.Head, .int .i64 x568.Tail]) rfl (by kernel_rfl) (by kernel_rfl) (by kernel_rfl) (M907.blk 0 (b := b574) (o := .cells ⟨[.slice p570 x568.Items.length c571, .int .i64 x568.Head, .int .i64 x568.Tail]⟩ 33 (0, 0)) (by kernel_rfl))) ?_
    obtain ⟨r908, hr908, hm⟩ := gx_bind hm
    refine W_call 23 #[.agg #[.slice p570 x568.Items.length c571, .int .i64 x568.Head, .int .i64 x568.Tail]] (by kernel_rfl) (by kernel_rfl) ?_
    refine (c_l_toRing w905 x568 p570 c571 (h572.mem0 M907) hr908).mono ?_
    rintro e_ w914 ⟨p910, c911, sg912, rfl, ho913, K915⟩
    have M916 := M907.call K915
    refine ⟨_, rfl, ?_⟩
    refine W_new (fun b => .pointer (some ⟨b, 0, none⟩)) (.cells ⟨[.slice none 0 0, .int .i64 0, .int .i64 0]⟩ 27 (0, 0)) M916 rfl (by kernel_rfl) (by kernel_rfl) ?_
    intro b919 w920 M921
    refine W_store _ _ _ true 3 b919 0 [.slice none 0 0, .int .i64 0, .int .i64 0] 27 (.agg #[.slice p910 r908.Items.length c911, .int .i64 r908.Head, .int .i64 r908.Tail]) 3 [.slice p910 r908.Items.length c911, .int .i64 r908.Head, .int .i64 r908.Tail] M921 (by kernel_rfl) rfl (by kernel_rfl) (by kernel_rfl) (by kernel_rfl) (by kernel_rfl) (by kernel_rfl) (by kernel_rfl) (by kernel_rfl) (by kernel_rfl) ?_
    intro w922 M923
    refine W_nil ?_
    refine N_then ?_
    refine G_seq ?_
    refine G_region ?_
    refine W_val (.agg #[.slice p910 r908.Items.length c911, .int .i64 r908.Head, .int .i64 r908.Tail]) w922 (by kernel_rfl) (E_load (e := 27) (fr := (0, 0)) _ _ true 3 b919 0 [.slice p910 r908.Items.length c911, .int .i64 r908.Head, .int .i64 r908.Tail] (.agg #[.slice p910 r908.Items.length c911, .int .i64 r908.Head, .int .i64 r908.Tail]) rfl (by kernel_rfl) (by kernel_rfl) (by kernel_rfl) (M923.blk 3 (b := b919) (o := .cells ⟨[.slice p910 r908.Items.length c911, .int .i64 r908.Head, .int .i64 r908.Tail]⟩ 27 (0, 0)) (by kernel_rfl))) ?_
    obtain ⟨r1179, hr1179, hm⟩ := gx_bind hm
    refine W_call 24 #[.agg #[.slice p910 r908.Items.length c911, .int .i64 r908.Head, .int .i64 r908.Tail]] (by kernel_rfl) (by kernel_rfl) ?_
    refine (c_i_IsRing w922 r908 p910 c911 (ho913.rd M923 2 (by kernel_rfl)) hr1179).mono ?_
    rintro e_ w1180 ⟨rfl, K1181⟩
    have M1182 := M923.call0 K1181
    refine ⟨_, rfl, ?_⟩
    refine W_run 1 [(1, .pointer (some ⟨b574, 0, none⟩)), (4, .bool r904), (5, .pointer (some ⟨b919, 0, none⟩)), (6, .bool r1179)] w1180 (by kernel_rfl) ?_
    refine W_nil ?_
    refine N_then ?_
    refine G_seq ?_
    refine G_seq ?_
    refine G_region ?_
    refine W_run 3 [(1, .pointer (some ⟨b574, 0, none⟩)), (5, .pointer (some ⟨b919, 0, none⟩)), (21, .bool (!(r1179 == r904)))] w1180 (by kernel_rfl) ?_
    refine W_nil ?_
    refine N_then ?_
    rcases gx_bif hm with ⟨hc1183, hm⟩ | ⟨hc1183, hm⟩
    · refine G_cond_t (b := (!(r1179 == r904))) hc1183 (by kernel_rfl) ?_
      refine G_seq ?_
      refine G_region ?_
      refine W_run 1 [(2, .bool false)] w1180 (by kernel_rfl) ?_
      refine W_nil ?_
      refine N_then ?_
      refine G_ret ?_
      refine N_then_ret ?_
      obtain rfl := Option.some.inj hm
      refine N_ret [.bool false] (RVs_cons (RV_tmp (by kernel_rfl)) RVs_nil) ?_
      exact ⟨rfl, M1182.pick [] (by kernel_rfl)⟩
    · refine G_cond_f (b := (!(r1179 == r904))) hc1183 (by kernel_rfl) ?_
      refine G_skip ?_
      refine N_then ?_
      refine G_seq ?_
      refine G_seq ?_
      obtain ⟨r1186, hr1186, hm⟩ := gx_bind hm
      refine G_sub [(1, .pointer (some ⟨b574, 0, none⟩)), (5, .pointer (some ⟨b919, 0, none⟩)), (21, .bool (!(r1179 == r904)))] (by kernel_rfl) ?_
      refine G_dagL 3 [[], [], [1]] [[], [], []] [[], [], []] [[], [], []] [[], [], []] [[], [], []] (fun _ => []) (fun i => ([fun f v s => v = (.agg #[.slice p910 r908.Items.length c911, .int .i64 r908.Head, .int .i64 r908.Tail] : Value) ∧ s = [], fun f v s => v = (.agg #[.slice p570 x568.Items.length c571, .int .i64 x568.Head, .int .i64 x568.Tail] : Value) ∧ s = [], fun f v s => ∃ (p1188 : Option Addr) (c1189 : Nat), v = (.agg #[.slice p1188 r1186.Items.length c1189, .int .i64 r1186.Head, .int .i64 r1186.Tail] : Value) ∧ ownS encI r1186.Items p1188 c1189 s] : List ((Nat → Value) → Value → Seg → Prop)).getD i (fun _ _ _ => False)) (fun j f v => ∃ s, (fun i => ([fun f v s => v = (.agg #[.slice p910 r908.Items.length c911, .int .i64 r908.Head, .int .i64 r908.Tail] : Value) ∧ s = [], fun f v s => v = (.agg #[.slice p570 x568.Items.length c571, .int .i64 x568.Head, .int .i64 x568.Tail] : Value) ∧ s = [], fun f v s => ∃ (p1188 : Option Addr) (c1189 : Nat), v = (.agg #[.slice p1188 r1186.Items.length c1189, .int .i64 r1186.Head, .int .i64 r1186.Tail] : Value) ∧ ownS encI r1186.Items p1188 c1189 s] : List ((Nat → Value) → Value → Seg → Prop)).getD i (fun _ _ _ => False)) j f v s) [] [0, 2] [2] (fun _ _ _ s h => ⟨s, h⟩) (by kernel_rfl) (by kernel_rfl) (M1182.preNil 3) (by kernel_rfl) (by kernel_rfl) (by kernel_rfl) (by kernel_rfl) (allOb_cons ?_ (allOb_cons ?_ (allOb_cons ?_ allOb_nil))) ?_
      · intro g1184 f1185
        intro R w1192 M1193
        refine W_val (.agg #[.slice p910 r908.Items.length c911, .int .i64 r908.Head, .int .i64 r908.Tail]) w1192 (by kernel_rfl) (E_load (e := 27) (fr := (0, 0)) _ _ true 3 b919 0 [.slice p910 r908.Items.length c911, .int .i64 r908.Head, .int .i64 r908.Tail] (.agg #[.slice p910 r908.Items.length c911, .int .i64 r908.Head, .int .i64 r908.Tail]) rfl (by kernel_rfl) (by kernel_rfl) (by kernel_rfl) (M1193.blk 3 (b := b919) (o := .cells ⟨[.slice p910 r908.Items.length c911, .int .i64 r908.Head, .int .i64 r908.Tail]⟩ 27 (0, 0)) (by kernel_rfl))) ?_
        exact W_nil (ob_end (.agg #[.slice p910 r908.Items.length c911, .int .i64 r908.Head, .int .i64 r908.Tail]) [] rfl (by kernel_rfl) ⟨by kernel_rfl, rfl⟩ M1193)
      · intro g1184 f1185
        intro R w1196 M1197
        refine W_val (.agg #[.slice p570 x568.Items.length c571, .int .i64 x568.Head, .int .i64 x568.Tail]) w1196 (by kernel_rfl) (E_load (e := 33) (fr := (0, 0)) _ _ true 3 b574 0 [.slice p570 x568.Items.length c571, .int .i64 x568.Head, .int .i64 x568.Tail] (.agg #[.slice p570 x568.Items.length c571, .int .i64 x568.Head, .int .i64 x568.Tail]) rfl (by kernel_rfl) (by kernel_rfl) (by kernel_rfl) (M1197.blk 0 (b := b574) (o := .cells ⟨[.slice p570 x568.Items.length c571, .int .i64 x568.Head, .int .i64 x568.Tail]⟩ 33 (0, 0)) (by kernel_rfl))) ?_
        exact W_nil (ob_end (.agg #[.slice p570 x568.Items.length c571, .int .i64 x568.Head, .int .i64 x568.Tail]) [] rfl (by kernel_rfl) ⟨by kernel_rfl, rfl⟩ M1197)
      · intro g1184 f1185
        intro v1_ hb1_
        obtain ⟨rfl, _⟩ := hb1_
        intro R w1200 M1201
        refine W_call 23 #[.agg #[.slice p570 x568.Items.length c571, .int .i64 x568.Head, .int .i64 x568.Tail]] (by kernel_rfl) (by kernel_rfl) ?_
        refine (c_l_toRing w1200 x568 p570 c571 (h572.mem0 M1201) hr1186).mono ?_
        rintro e_ w1202 ⟨p1188, c1189, sg1190, rfl, ho1191, K1204⟩
        refine ⟨_, rfl, ?_⟩
        exact W_nil (ob_end (.agg #[.slice p1188 r1186.Items.length c1189, .int .i64 r1186.Head, .int .i64 r1186.Tail]) sg1190 rfl (by kernel_rfl) ⟨p1188, c1189, rfl, ho1191⟩ (Mem.callMid M1201 K1204))
      · intro g1184 f1185
        intro v0_ hb0_
        obtain ⟨rfl, _⟩ := hb0_
        intro v2_ hb2_
        obtain ⟨p1188, c1189, rfl, ho1191⟩ := hb2_
        intro w1205 M1206
        have M1207 : Mem [] w w1205 [[(b574, .cells ⟨[.slice p570 x568.Items.length c571, .int .i64 x568.Head, .int .i64 x568.Tail]⟩ 33 (0, 0))], sg708, sg912, [(b919, .cells ⟨[.slice p910 r908.Items.length c911, .int .i64 r908.Head, .int .i64 r908.Tail]⟩ 27 (0, 0))], (g1184 2)] := M1206
        obtain ⟨r1208, hr1208, hm⟩ := gx_bind hm
        refine W_call 18 #[.agg #[.slice p910 r908.Items.length c911, .int .i64 r908.Head, .int .i64 r908.Tail], .agg #[.slice p1188 r1186.Items.length c1189, .int .i64 r1186.Head, .int .i64 r1186.Tail]] (by kernel_rfl) (by kernel_rfl) ?_
        refine (c_l_eqRing w1205 r908 p910 c911 (ho913.rd M1207 2 (by kernel_rfl)) r1186 p1188 c1189 (ho1191.rd M1207 4 (by kernel_rfl)) hr1208).mono ?_
        rintro e_ w1209 ⟨rfl, K1210⟩
        have M1211 := M1207.call0 K1210
        refine ⟨_, rfl, ?_⟩
        refine W_run 1 [(26, .bool (!r1208))] w1209 (by kernel_rfl) ?_
        refine W_nil ?_
        refine N_then ?_
        rcases gx_bif hm with ⟨hc1212, hm⟩ | ⟨hc1212, hm⟩
        · refine G_cond_t (b := (!r1208)) hc1212 (by kernel_rfl) ?_
          refine G_seq ?_
          refine G_region ?_
          refine W_run 1 [(2, .bool false)] w1209 (by kernel_rfl) ?_
          refine W_nil ?_
          refine N_then ?_
          refine G_ret ?_
          refine N_then_ret ?_
          obtain rfl := Option.some.inj hm
          refine N_ret [.bool false] (RVs_cons (RV_tmp (by kernel_rfl)) RVs_nil) ?_
          exact ⟨rfl, M1211.pick [] (by kernel_rfl)⟩
        · refine G_cond_f (b := (!r1208)) hc1212 (by kernel_rfl) ?_
          refine G_skip ?_
          refine N_then ?_
          refine G_seq ?_
          refine G_region ?_
          refine W_run 1 [(2, .bool true)] w1209 (by kernel_rfl) ?_
          refine W_nil ?_
          refine N_then ?_
          refine G_ret ?_
          obtain rfl := Option.some.inj hm
          refine N_ret [.bool true] (RVs_cons (RV_tmp (by kernel_rfl)) RVs_nil) ?_
          exact ⟨rfl, M1211.pick [] (by kernel_rfl)⟩
theorem c_s_l20Words (w : World) (x1262 : Ring) (p1264 : Option Addr) (c1265 : Nat) (h1266 : rdS encI w x1262.Items p1264 c1265) {r : (List Int)} (hm : M.s_l20Words x1262 = some r) :
    Calls Try.prog 60 #[.agg #[.slice p1264 x1262.Items.length c1265, .int .i64 x1262.Head, .int .i64 x1262.Tail]] w fun e w' => ∃ (p1268 : Option Addr) (c1269 : Nat) (sg1270 : Seg), e = .returned (.slice p1268 r.length c1269) ∧ ownS encI r p1268 c1269 sg1270 ∧ Mem [] w w' [sg1270] := by
  unfold M.s_l20Words at hm
  refine C_enter Try.func60 rfl (by kernel_rfl) ?_
  have M0 := Mem.refl [] w
  refine G_seq ?_
  refine G_region ?_
  refine W_new (fun b => .pointer (some ⟨b, 0, none⟩)) (.cells ⟨[.slice p1264 x1262.Items.length c1265, .int .i64 x1262.Head, .int .i64 x1262.Tail]⟩ 27 (0, 0)) M0 rfl (by kernel_rfl) (by kernel_rfl) ?_
  intro b1272 w1273 M1274
  refine W_run 1 [(1, .pointer (some ⟨b1272, 0, none⟩))] w1273 (by kernel_rfl) ?_
  refine W_nil ?_
  refine N_then ?_
  refine G_seq ?_
  refine G_region ?_
  refine W_lit (E := encI) ([] : List Int) 0 [] 3 M1274 (by kernel_rfl) (by kernel_rfl) (by kernel_rfl) (by kernel_rfl) (by kernel_rfl) ?_
  intro p1276 c1277 sg1278 w1279 ho1280 M1281
  refine W_run 1 [(1, .pointer (some ⟨b1272, 0, none⟩)), (3, .slice p1276 ([] : List Int).length c1277)] w1279 (by kernel_rfl) ?_
  refine W_nil ?_
  refine N_then ?_
  refine G_seq ?_
  refine G_seq ?_
  refine G_region ?_
  refine W_run 1 [(1, .pointer (some ⟨b1272, 0, none⟩)), (3, .slice p1276 ([] : List Int).length c1277), (4, .int .i64 0)] w1279 (by kernel_rfl) ?_
  refine W_nil ?_
  refine N_then ?_
  obtain ⟨out1457, hw1458, hmo1459⟩ := gx_bind hm
  refine G_meet (fun a w' => ∃ (p1466 : Option Addr), ∃ (c1467 : Nat), ∃ (sg1468 : Seg), ownS encI out1457 p1466 c1467 sg1468 ∧ Mem [] w w' [sg1468] ∧ Sat Try.f60.ntmps [(3, .slice p1466 out1457.length c1467)] a) ?_ ?_
  · refine G_block ?_
    refine G_while (σ := List Int × Int) (ρ := List Int) (fun s1450 a w' => ∃ (p1460 : Option Addr), ∃ (c1461 : Nat), ∃ (sg1462 : Seg), ownS encI s1450.1 p1460 c1461 sg1462 ∧ Mem [] w w' [[(b1272, .cells ⟨[.slice p1264 x1262.Items.length c1265, .int .i64 x1262.Head, .int .i64 x1262.Tail]⟩ 27 (0, 0))], sg1462] ∧ Sat Try.f60.ntmps [(1, .pointer (some ⟨b1272, 0, none⟩)), (3, .slice p1460 s1450.1.length c1461), (4, .int .i64 s1450.2)] a) hw1458 (fun a ha => ⟨p1276, c1277, sg1278, ho1280, M1281.pick [0, 1] (by kernel_rfl), ha.sub (by kernel_rfl)⟩) ?_
    clear hm
    intro s1450 x1451 hm hout1452 a1453 w1454 ⟨p1460, c1461, sg1462, ho1463, M1455, hS1456⟩
    refine G_use hS1456 ?_
    refine G_seq ?_
    refine G_seq ?_
    refine G_region ?_
    refine W_run 1 [(1, .pointer (some ⟨b1272, 0, none⟩)), (3, .slice p1460 s1450.1.length c1461), (4, .int .i64 s1450.2), (6, .int .i64 s1450.2)] w1454 (by kernel_rfl) ?_
    refine W_val (.agg #[.slice p1264 x1262.Items.length c1265, .int .i64 x1262.Head, .int .i64 x1262.Tail]) w1454 (by kernel_rfl) (E_load (e := 27) (fr := (0, 0)) _ _ true 3 b1272 0 [.slice p1264 x1262.Items.length c1265, .int .i64 x1262.Head, .int .i64 x1262.Tail] (.agg #[.slice p1264 x1262.Items.length c1265, .int .i64 x1262.Head, .int .i64 x1262.Tail]) rfl (by kernel_rfl) (by kernel_rfl) (by kernel_rfl) (M1455.blk 0 (b := b1272) (o := .cells ⟨[.slice p1264 x1262.Items.length c1265, .int .i64 x1262.Head, .int .i64 x1262.Tail]⟩ 27 (0, 0)) (by kernel_rfl))) ?_
    obtain ⟨r1471, hr1471, hm⟩ := gx_bind hm
    refine W_call 63 #[.agg #[.slice p1264 x1262.Items.length c1265, .int .i64 x1262.Head, .int .i64 x1262.Tail]] (by kernel_rfl) (by kernel_rfl) ?_
    refine (c_s_l20Count w1454 x1262 p1264 c1265 (h1266.mem0 M1455) hr1471).mono ?_
    rintro e_ w1472 ⟨rfl, K1473⟩
    have M1474 := M1455.call0 K1473
    refine ⟨_, rfl, ?_⟩
    refine W_run 1 [(1, .pointer (some ⟨b1272, 0, none⟩)), (3, .slice p1460 s1450.1.length c1461), (4, .int .i64 s1450.2), (9, .bool (decide (s1450.2 < r1471)))] w1472 (by kernel_rfl) ?_
    refine W_nil ?_
    refine N_then ?_
    rcases gx_bif hm with ⟨hc1475, hm⟩ | ⟨hc1475, hm⟩
    · refine G_cond_t (b := (decide (s1450.2 < r1471))) hc1475 (by kernel_rfl) ?_
      refine G_skip ?_
      refine N_then ?_
      refine G_seq ?_
      refine G_block ?_
      obtain ⟨q1478, hq1478, hm⟩ := gx_bind hm
      obtain ⟨y1479, hy1479, hm⟩ := gx_bind hm
      refine G_sub [(1, .pointer (some ⟨b1272, 0, none⟩)), (3, .slice p1460 s1450.1.length c1461), (4, .int .i64 s1450.2), (9, .bool (decide (s1450.2 < r1471)))] (by kernel_rfl) ?_
      refine G_dagL 14 [[], [], [1], [], [3], [], [4, 5], [], [7], [8], [6, 9], [2, 10], [11], [12]] [[], [], [], [], [], [], [], [], [], [], [], [], [], []] [[], [], [], [], [], [], [], [], [], [], [], [], [], []] [[], [], [], [], [], [], [], [], [], [], [], [], [], []] [[], [], [], [], [], [], [], [], [], [], [], [], [], []] [[], [], [], [], [], [], [], [], [], [], [], [], [], []] (fun _ => []) (fun i => ([fun f v s => v = (.slice p1460 s1450.1.length c1461 : Value) ∧ s = [], fun f v s => v = (.pointer (some ⟨b1272, 0, none⟩) : Value) ∧ s = [], fun f v s => v = (.slice p1264 x1262.Items.length c1265 : Value) ∧ s = [], fun f v s => v = (.pointer (some ⟨b1272, 1, none⟩) : Value) ∧ s = [], fun f v s => v = (.int .i64 x1262.Head : Value) ∧ s = [], fun f v s => v = (.int .i64 s1450.2 : Value) ∧ s = [], fun f v s => v = (.int .i64 (w64 (x1262.Head + s1450.2)) : Value) ∧ s = [], fun f v s => v = (.pointer (some ⟨b1272, 0, none⟩) : Value) ∧ s = [], fun f v s => v = (.slice p1264 x1262.Items.length c1265 : Value) ∧ s = [], fun f v s => v = (.int .i64 (x1262.Items.length : Int) : Value) ∧ s = [], fun f v s => v = (.int .i64 q1478 : Value) ∧ s = [], fun f v s => v = (elemP p1264 (q1478.toNat * 1) : Value) ∧ s = [], fun f v s => v = (.int .i64 y1479 : Value) ∧ s = [], fun f v s => ∃ (p1481 : Option Addr) (c1482 : Nat), v = (.slice p1481 [y1479].length c1482 : Value) ∧ ownS encI [y1479] p1481 c1482 s] : List ((Nat → Value) → Value → Seg → Prop)).getD i (fun _ _ _ => False)) (fun j f v => ∃ s, (fun i => ([fun f v s => v = (.slice p1460 s1450.1.length c1461 : Value) ∧ s = [], fun f v s => v = (.pointer (some ⟨b1272, 0, none⟩) : Value) ∧ s = [], fun f v s => v = (.slice p1264 x1262.Items.length c1265 : Value) ∧ s = [], fun f v s => v = (.pointer (some ⟨b1272, 1, none⟩) : Value) ∧ s = [], fun f v s => v = (.int .i64 x1262.Head : Value) ∧ s = [], fun f v s => v = (.int .i64 s1450.2 : Value) ∧ s = [], fun f v s => v = (.int .i64 (w64 (x1262.Head + s1450.2)) : Value) ∧ s = [], fun f v s => v = (.pointer (some ⟨b1272, 0, none⟩) : Value) ∧ s = [], fun f v s => v = (.slice p1264 x1262.Items.length c1265 : Value) ∧ s = [], fun f v s => v = (.int .i64 (x1262.Items.length : Int) : Value) ∧ s = [], fun f v s => v = (.int .i64 q1478 : Value) ∧ s = [], fun f v s => v = (elemP p1264 (q1478.toNat * 1) : Value) ∧ s = [], fun f v s => v = (.int .i64 y1479 : Value) ∧ s = [], fun f v s => ∃ (p1481 : Option Addr) (c1482 : Nat), v = (.slice p1481 [y1479].length c1482 : Value) ∧ ownS encI [y1479] p1481 c1482 s] : List ((Nat → Value) → Value → Seg → Prop)).getD i (fun _ _ _ => False)) j f v s) [] [0, 13] [13] (fun _ _ _ s h => ⟨s, h⟩) (by kernel_rfl) (by kernel_rfl) (M1474.preNil 14) (by kernel_rfl) (by kernel_rfl) (by kernel_rfl) (by kernel_rfl) (allOb_cons ?_ (allOb_cons ?_ (allOb_cons ?_ (allOb_cons ?_ (allOb_cons ?_ (allOb_cons ?_ (allOb_cons ?_ (allOb_cons ?_ (allOb_cons ?_ (allOb_cons ?_ (allOb_cons ?_ (allOb_cons ?_ (allOb_cons ?_ (allOb_cons ?_ allOb_nil)))))))))))))) ?_
      · intro g1476 f1477
        intro R w1485 M1486
        refine W_run 1 [(12, .slice p1460 s1450.1.length c1461)] w1485 (by kernel_rfl) ?_
        exact W_nil (ob_end (.slice p1460 s1450.1.length c1461) [] rfl (by kernel_rfl) ⟨by kernel_rfl, rfl⟩ M1486)
      · intro g1476 f1477
        intro R w1489 M1490
        refine W_run 1 [(13, .pointer (some ⟨b1272, 0, none⟩))] w1489 (by kernel_rfl) ?_
        exact W_nil (ob_end (.pointer (some ⟨b1272, 0, none⟩)) [] rfl (by kernel_rfl) ⟨by kernel_rfl, rfl⟩ M1490)
      · intro g1476 f1477
        intro v1_ hb1_
        obtain ⟨rfl, _⟩ := hb1_
        intro R w1493 M1494
        refine W_val (.slice p1264 x1262.Items.length c1265) w1493 (by kernel_rfl) (E_load (e := 27) (fr := (0, 0)) _ _ false 1 b1272 0 [.slice p1264 x1262.Items.length c1265, .int .i64 x1262.Head, .int .i64 x1262.Tail] (.slice p1264 x1262.Items.length c1265) rfl (by kernel_rfl) (by kernel_rfl) (by kernel_rfl) (M1494.blk 0 (b := b1272) (o := .cells ⟨[.slice p1264 x1262.Items.length c1265, .int .i64 x1262.Head, .int .i64 x1262.Tail]⟩ 27 (0, 0)) (by kernel_rfl))) ?_
        exact W_nil (ob_end (.slice p1264 x1262.Items.length c1265) [] rfl (by kernel_rfl) ⟨by kernel_rfl, rfl⟩ M1494)
      · intro g1476 f1477
        intro R w1497 M1498
        refine W_run 1 [(15, .pointer (some ⟨b1272, 1, none⟩))] w1497 (by kernel_rfl) ?_
        exact W_nil (ob_end (.pointer (some ⟨b1272, 1, none⟩)) [] rfl (by kernel_rfl) ⟨by kernel_rfl, rfl⟩ M1498)
      · intro g1476 f1477
        intro v3_ hb3_
        obtain ⟨rfl, _⟩ := hb3_
        intro R w1501 M1502
        refine W_val (.int .i64 x1262.Head) w1501 (by kernel_rfl) (E_load (e := 27) (fr := (0, 0)) _ _ false 1 b1272 1 [.slice p1264 x1262.Items.length c1265, .int .i64 x1262.Head, .int .i64 x1262.Tail] (.int .i64 x1262.Head) rfl (by kernel_rfl) (by kernel_rfl) (by kernel_rfl) (M1502.blk 0 (b := b1272) (o := .cells ⟨[.slice p1264 x1262.Items.length c1265, .int .i64 x1262.Head, .int .i64 x1262.Tail]⟩ 27 (0, 0)) (by kernel_rfl))) ?_
        exact W_nil (ob_end (.int .i64 x1262.Head) [] rfl (by kernel_rfl) ⟨by kernel_rfl, rfl⟩ M1502)
      · intro g1476 f1477
        intro R w1505 M1506
        refine W_run 1 [(17, .int .i64 s1450.2)] w1505 (by kernel_rfl) ?_
        exact W_nil (ob_end (.int .i64 s1450.2) [] rfl (by kernel_rfl) ⟨by kernel_rfl, rfl⟩ M1506)
      · intro g1476 f1477
        intro v4_ hb4_
        obtain ⟨rfl, _⟩ := hb4_
        intro v5_ hb5_
        obtain ⟨rfl, _⟩ := hb5_
        intro R w1509 M1510
        refine W_run 1 [(18, .int .i64 (w64 (x1262.Head + s1450.2)))] w1509 (by kernel_rfl) ?_
        exact W_nil (ob_end (.int .i64 (w64 (x1262.Head + s1450.2))) [] rfl (by kernel_rfl) ⟨by kernel_rfl, rfl⟩ M1510)
      · intro g1476 f1477
        intro R w1513 M1514
        refine W_run 1 [(19, .pointer (some ⟨b1272, 0, none⟩))] w1513 (by kernel_rfl) ?_
        exact W_nil (ob_end (.pointer (some ⟨b1272, 0, none⟩)) [] rfl (by kernel_rfl) ⟨by kernel_rfl, rfl⟩ M1514)
      · intro g1476 f1477
        intro v7_ hb7_
        obtain ⟨rfl, _⟩ := hb7_
        intro R w1517 M1518
        refine W_val (.slice p1264 x1262.Items.length c1265) w1517 (by kernel_rfl) (E_load (e := 27) (fr := (0, 0)) _ _ false 1 b1272 0 [.slice p1264 x1262.Items.length c1265, .int .i64 x1262.Head, .int .i64 x1262.Tail] (.slice p1264 x1262.Items.length c1265) rfl (by kernel_rfl) (by kernel_rfl) (by kernel_rfl) (M1518.blk 0 (b := b1272) (o := .cells ⟨[.slice p1264 x1262.Items.length c1265, .int .i64 x1262.Head, .int .i64 x1262.Tail]⟩ 27 (0, 0)) (by kernel_rfl))) ?_
        exact W_nil (ob_end (.slice p1264 x1262.Items.length c1265) [] rfl (by kernel_rfl) ⟨by kernel_rfl, rfl⟩ M1518)
      · intro g1476 f1477
        intro v8_ hb8_
        obtain ⟨rfl, _⟩ := hb8_
        intro R w1521 M1522
        refine W_run 1 [(21, .int .i64 (x1262.Items.length : Int))] w1521 (by kernel_rfl) ?_
        exact W_nil (ob_end (.int .i64 (x1262.Items.length : Int)) [] rfl (by kernel_rfl) ⟨by kernel_rfl, rfl⟩ M1522)
      · intro g1476 f1477
        intro v6_ hb6_
        obtain ⟨rfl, _⟩ := hb6_
        intro v9_ hb9_
        obtain ⟨rfl, _⟩ := hb9_
        intro R w1525 M1526
        refine W_val (.int .i64 q1478) w1525 (by kernel_rfl) (E_rem _ _ _ _ (w64 (x1262.Head + s1450.2)) (x1262.Items.length : Int) q1478 rfl (by kernel_rfl) (by kernel_rfl) hq1478) ?_
        exact W_nil (ob_end (.int .i64 q1478) [] rfl (by kernel_rfl) ⟨by kernel_rfl, rfl⟩ M1526)
      · intro g1476 f1477
        intro v2_ hb2_
        obtain ⟨rfl, _⟩ := hb2_
        intro v10_ hb10_
        obtain ⟨rfl, _⟩ := hb10_
        intro R w1529 M1530
        refine W_val (elemP p1264 (q1478.toNat * 1)) w1529 (by kernel_rfl) (E_index (E := encI) _ _ _ x1262.Items.length c1265 .i64 q1478 1 (y := y1479) rfl (by kernel_rfl) (by kernel_rfl) (by kernel_rfl) (h1266.mem0 M1530) rfl hy1479) ?_
        exact W_nil (ob_end (elemP p1264 (q1478.toNat * 1)) [] rfl (by kernel_rfl) ⟨by kernel_rfl, rfl⟩ M1530)
      · intro g1476 f1477
        intro v11_ hb11_
        obtain ⟨rfl, _⟩ := hb11_
        intro R w1533 M1534
        refine W_val (.int .i64 y1479) w1533 (by kernel_rfl) (E_loadE (E := encI) _ _ false 1 q1478 0 (q1478.toNat * 1) y1479 (.int .i64 y1479) rfl (by kernel_rfl) (by kernel_rfl) (by kernel_rfl) (h1266.mem0 M1534) hy1479 rfl) ?_
        exact W_nil (ob_end (.int .i64 y1479) [] rfl (by kernel_rfl) ⟨by kernel_rfl, rfl⟩ M1534)
      · intro g1476 f1477
        intro v12_ hb12_
        obtain ⟨rfl, _⟩ := hb12_
        intro R w1537 M1538
        refine W_lit (E := encI) [y1479] 1 [.int .i64 y1479] 3 M1538 (by kernel_rfl) (by kernel_rfl) (by kernel_rfl) (by kernel_rfl) (by kernel_rfl) ?_
        intro p1481 c1482 sg1483 w1539 ho1484 M1540
        exact W_nil (ob_end (.slice p1481 [y1479].length c1482) sg1483 rfl (by kernel_rfl) ⟨p1481, c1482, rfl, ho1484⟩ (Mem.mid M1540))
      · intro g1476 f1477
        intro v0_ hb0_
        obtain ⟨rfl, _⟩ := hb0_
        intro v13_ hb13_
        obtain ⟨p1481, c1482, rfl, ho1484⟩ := hb13_
        intro w1541 M1542
        have M1543 : Mem [] w w1541 [[(b1272, .cells ⟨[.slice p1264 x1262.Items.length c1265, .int .i64 x1262.Head, .int .i64 x1262.Tail]⟩ 27 (0, 0))], sg1462, (g1476 13)] := M1542
        obtain ⟨ap1544, hap1544, hm⟩ := gx_bind hm
        refine W_append (E := encI) _ _ _ 8 [.int .i64 0] 1 c1482 M1543 ho1463 (by kernel_rfl) (by kernel_rfl) (by kernel_rfl) rfl (by kernel_rfl) (by kernel_rfl) (by kernel_rfl) (by kernel_rfl) (by kernel_rfl) (by kernel_rfl) (ho1484.rd M1543 2 (by kernel_rfl)) hap1544 ?_
        intro p1545 c1546 sg1547 w1548 ho1549 M1550
        refine W_run 1 [(1, .pointer (some ⟨b1272, 0, none⟩)), (3, .slice p1545 ap1544.length c1546), (4, .int .i64 s1450.2)] w1548 (by kernel_rfl) ?_
        refine W_nil ?_
        refine N_block ?_
        refine N_then ?_
        refine G_region ?_
        refine W_run 3 [(1, .pointer (some ⟨b1272, 0, none⟩)), (3, .slice p1545 ap1544.length c1546), (4, .int .i64 (w64 (s1450.2 + 1)))] w1548 (by kernel_rfl) ?_
        refine W_nil ?_
        obtain rfl := Option.some.inj hm
        exact N_loop fun a ha => ⟨_, rfl, p1545, c1546, sg1547, ho1549, M1550.pick [0, 1] (by kernel_rfl), ha.sub (by kernel_rfl)⟩
    · refine G_cond_f (b := (decide (s1450.2 < r1471))) hc1475 (by kernel_rfl) ?_
      refine G_exit ?_
      refine N_then_exit ?_
      refine N_then_exit ?_
      refine N_block_eq ?_
      obtain rfl := Option.some.inj hm
      obtain rfl := hout1452 _ rfl
      exact N_meet fun a ha => ⟨p1460, c1461, sg1462, ho1463, M1474.pick [1] (by kernel_rfl), ha.sub (by kernel_rfl)⟩
  · intro a1552 w1553 ⟨p1466, c1467, sg1468, ho1469, M1554, hS1555⟩
    refine N_use hS1555 ?_
    have hm := hmo1459
    refine N_then ?_
    refine G_seq ?_
    refine G_region ?_
    refine W_run 2 [(2, .slice p1466 out1457.length c1467)] w1553 (by kernel_rfl) ?_
    refine W_nil ?_
    refine N_then ?_
    refine G_ret ?_
    obtain rfl := Option.some.inj hm
    refine N_ret [.slice p1466 out1457.length c1467] (RVs_cons (RV_tmp (by kernel_rfl)) RVs_nil) ?_
    exact ⟨p1466, c1467, sg1468, rfl, ho1469, M1554.pick [0] (by kernel_rfl)⟩
theorem c_s_RingWords (w : World) (x1236 : Ring) (p1238 : Option Addr) (c1239 : Nat) (h1240 : rdS encI w x1236.Items p1238 c1239) {r : (List Int) × Bool} (hm : M.s_RingWords x1236 = some r) :
    Calls Try.prog 25 #[.agg #[.slice p1238 x1236.Items.length c1239, .int .i64 x1236.Head, .int .i64 x1236.Tail]] w fun e w' => ∃ (p1242 : Option Addr) (c1243 : Nat) (sg1244 : Seg), e = .returned (.tuple #[.slice p1242 r.1.length c1243, .bool r.2]) ∧ ownS encI r.1 p1242 c1243 sg1244 ∧ Mem [] w w' [sg1244] := by
  unfold M.s_RingWords at hm
  refine C_enter Try.func25 rfl (by kernel_rfl) ?_
  have M0 := Mem.refl [] w
  refine G_seq ?_
  refine G_region ?_
  refine W_new (fun b => .pointer (some ⟨b, 0, none⟩)) (.cells ⟨[.slice p1238 x1236.Items.length c1239, .int .i64 x1236.Head, .int .i64 x1236.Tail]⟩ 27 (0, 0)) M0 rfl (by kernel_rfl) (by kernel_rfl) ?_
  intro b1246 w1247 M1248
  refine W_run 2 [(1, .pointer (some ⟨b1246, 0, none⟩))] w1247 (by kernel_rfl) ?_
  refine W_nil ?_
  refine N_then ?_
  refine G_seq ?_
  refine G_seq ?_
  refine G_region ?_
  refine W_val (.agg #[.slice p1238 x1236.Items.length c1239, .int .i64 x1236.Head, .int .i64 x1236.Tail]) w1247 (by kernel_rfl) (E_load (e := 27) (fr := (0, 0)) _ _ true 3 b1246 0 [.slice p1238 x1236.Items.length c1239, .int .i64 x1236.Head, .int .i64 x1236.Tail] (.agg #[.slice p1238 x1236.Items.length c1239, .int .i64 x1236.Head, .int .i64 x1236.Tail]) rfl (by kernel_rfl) (by kernel_rfl) (by kernel_rfl) (M1248.blk 0 (b := b1246) (o := .cells ⟨[.slice p1238 x1236.Items.length c1239, .int .i64 x1236.Head, .int .i64 x1236.Tail]⟩ 27 (0, 0)) (by kernel_rfl))) ?_
  obtain ⟨r1250, hr1250, hm⟩ := gx_bind hm
  refine W_call 58 #[.agg #[.slice p1238 x1236.Items.length c1239, .int .i64 x1236.Head, .int .i64 x1236.Tail]] (by kernel_rfl) (by kernel_rfl) ?_
  refine (c_s_l20Good w1247 x1236 p1238 c1239 (h1240.mem0 M1248) hr1250).mono ?_
  rintro e_ w1251 ⟨rfl, K1252⟩
  have M1253 := M1248.call0 K1252
  refine ⟨_, rfl, ?_⟩
  refine W_run 1 [(1, .pointer (some ⟨b1246, 0, none⟩)), (6, .bool (!r1250))] w1251 (by kernel_rfl) ?_
  refine W_nil ?_
  refine N_then ?_
  rcases gx_bif hm with ⟨hc1254, hm⟩ | ⟨hc1254, hm⟩
  · refine G_cond_t (b := (!r1250)) hc1254 (by kernel_rfl) ?_
    refine G_seq ?_
    refine G_region ?_
    refine W_lit (E := encI) ([] : List Int) 0 [] 3 M1253 (by kernel_rfl) (by kernel_rfl) (by kernel_rfl) (by kernel_rfl) (by kernel_rfl) ?_
    intro p1255 c1256 sg1257 w1258 ho1259 M1260
    refine W_run 2 [(2, .slice p1255 ([] : List Int).length c1256), (3, .bool false)] w1258 (by kernel_rfl) ?_
    refine W_nil ?_
    refine N_then ?_
    refine G_ret ?_
    refine N_then_ret ?_
    obtain rfl := Option.some.inj hm
    refine N_ret [.slice p1255 ([] : List Int).length c1256, .bool false] (RVs_cons (RV_tmp (by kernel_rfl)) (RVs_cons (RV_tmp (by kernel_rfl)) RVs_nil)) ?_
    exact ⟨p1255, c1256, sg1257, rfl, ho1259, M1260.pick [1] (by kernel_rfl)⟩
  · refine G_cond_f (b := (!r1250)) hc1254 (by kernel_rfl) ?_
    refine G_skip ?_
    refine N_then ?_
    refine G_seq ?_
    refine G_region ?_
    refine W_val (.agg #[.slice p1238 x1236.Items.length c1239, .int .i64 x1236.Head, .int .i64 x1236.Tail]) w1251 (by kernel_rfl) (E_load (e := 27) (fr := (0, 0)) _ _ true 3 b1246 0 [.slice p1238 x1236.Items.length c1239, .int .i64 x1236.Head, .int .i64 x1236.Tail] (.agg #[.slice p1238 x1236.Items.length c1239, .int .i64 x1236.Head, .int .i64 x1236.Tail]) rfl (by kernel_rfl) (by kernel_rfl) (by kernel_rfl) (M1253.blk 0 (b := b1246) (o := .cells ⟨[.slice p1238 x1236.Items.length c1239, .int .i64 x1236.Head, .int .i64 x1236.Tail]⟩ 27 (0, 0)) (by kernel_rfl))) ?_
    obtain ⟨r1556, hr1556, hm⟩ := gx_bind hm
    refine W_call 60 #[.agg #[.slice p1238 x1236.Items.length c1239, .int .i64 x1236.Head, .int .i64 x1236.Tail]] (by kernel_rfl) (by kernel_rfl) ?_
    refine (c_s_l20Words w1251 x1236 p1238 c1239 (h1240.mem0 M1253) hr1556).mono ?_
    rintro e_ w1562 ⟨p1558, c1559, sg1560, rfl, ho1561, K1563⟩
    have M1564 := M1253.call K1563
    refine ⟨_, rfl, ?_⟩
    refine W_run 2 [(2, .slice p1558 r1556.length c1559), (3, .bool true)] w1562 (by kernel_rfl) ?_
    refine W_nil ?_
    refine N_then ?_
    refine G_ret ?_
    obtain rfl := Option.some.inj hm
    refine N_ret [.slice p1558 r1556.length c1559, .bool true] (RVs_cons (RV_tmp (by kernel_rfl)) (RVs_cons (RV_tmp (by kernel_rfl)) RVs_nil)) ?_
    exact ⟨p1558, c1559, sg1560, rfl, ho1561, M1564.pick [1] (by kernel_rfl)⟩
theorem c_i_ringWords (w : World) (x1610 : Ring) (p1612 : Option Addr) (c1613 : Nat) (h1614 : rdS encI w x1610.Items p1612 c1613) {r : (List Int)} (hm : M.i_ringWords x1610 = some r) :
    Calls Try.prog 61 #[.agg #[.slice p1612 x1610.Items.length c1613, .int .i64 x1610.Head, .int .i64 x1610.Tail]] w fun e w' => ∃ (p1616 : Option Addr) (c1617 : Nat) (sg1618 : Seg), e = .returned (.slice p1616 r.length c1617) ∧ ownS encI r p1616 c1617 sg1618 ∧ Mem [] w w' [sg1618] := by
  unfold M.i_ringWords at hm
  refine C_enter Try.func61 rfl (by kernel_rfl) ?_
  have M0 := Mem.refl [] w
  refine G_seq ?_
  refine G_region ?_
  refine W_new (fun b => .pointer (some ⟨b, 0, none⟩)) (.cells ⟨[.slice p1612 x1610.Items.length c1613, .int .i64 x1610.Head, .int .i64 x1610.Tail]⟩ 27 (0, 0)) M0 rfl (by kernel_rfl) (by kernel_rfl) ?_
  intro b1620 w1621 M1622
  refine W_run 1 [(1, .pointer (some ⟨b1620, 0, none⟩))] w1621 (by kernel_rfl) ?_
  refine W_nil ?_
  refine N_then ?_
  refine G_seq ?_
  refine G_region ?_
  refine W_lit (E := encI) ([] : List Int) 0 [] 3 M1622 (by kernel_rfl) (by kernel_rfl) (by kernel_rfl) (by kernel_rfl) (by kernel_rfl) ?_
  intro p1624 c1625 sg1626 w1627 ho1628 M1629
  refine W_run 1 [(1, .pointer (some ⟨b1620, 0, none⟩)), (3, .slice p1624 ([] : List Int).length c1625)] w1627 (by kernel_rfl) ?_
  refine W_nil ?_
  refine N_then ?_
  refine G_seq ?_
  refine G_seq ?_
  refine G_region ?_
  refine W_val (.agg #[.slice p1612 x1610.Items.length c1613, .int .i64 x1610.Head, .int .i64 x1610.Tail]) w1627 (by kernel_rfl) (E_load (e := 27) (fr := (0, 0)) _ _ true 3 b1620 0 [.slice p1612 x1610.Items.length c1613, .int .i64 x1610.Head, .int .i64 x1610.Tail] (.agg #[.slice p1612 x1610.Items.length c1613, .int .i64 x1610.Head, .int .i64 x1610.Tail]) rfl (by kernel_rfl) (by kernel_rfl) (by kernel_rfl) (M1629.blk 0 (b := b1620) (o := .cells ⟨[.slice p1612 x1610.Items.length c1613, .int .i64 x1610.Head, .int .i64 x1610.Tail]⟩ 27 (0, 0)) (by kernel_rfl))) ?_
  obtain ⟨r1631, hr1631, hm⟩ := gx_bind hm
  refine W_call 59 #[.agg #[.slice p1612 x1610.Items.length c1613, .int .i64 x1610.Head, .int .i64 x1610.Tail]] (by kernel_rfl) (by kernel_rfl) ?_
  refine (c_i_Ring_count w1627 x1610 p1612 c1613 (h1614.mem0 M1629) hr1631).mono ?_
  rintro e_ w1632 ⟨rfl, K1633⟩
  have M1634 := M1629.call0 K1633
  refine ⟨_, rfl, ?_⟩
  refine W_run 1 [(1, .pointer (some ⟨b1620, 0, none⟩)), (3, .slice p1624 ([] : List Int).length c1625), (7, .int .i64 r1631), (8, .int .i64 0)] w1632 (by kernel_rfl) ?_
  refine W_nil ?_
  refine N_then ?_
  obtain ⟨out1801, hw1802, hmo1803⟩ := gx_bind hm
  refine G_meet (fun a w' => ∃ (p1810 : Option Addr), ∃ (c1811 : Nat), ∃ (sg1812 : Seg), ownS encI out1801 p1810 c1811 sg1812 ∧ Mem [] w w' [sg1812] ∧ Sat Try.f61.ntmps [(3, .slice p1810 out1801.length c1811)] a) ?_ ?_
  · refine G_block ?_
    refine G_while (σ := List Int × Int) (ρ := List Int) (fun s1794 a w' => ∃ (p1804 : Option Addr), ∃ (c1805 : Nat), ∃ (sg1806 : Seg), ownS encI s1794.1 p1804 c1805 sg1806 ∧ Mem [] w w' [[(b1620, .cells ⟨[.slice p1612 x1610.Items.length c1613, .int .i64 x1610.Head, .int .i64 x1610.Tail]⟩ 27 (0, 0))], sg1806] ∧ Sat Try.f61.ntmps [(1, .pointer (some ⟨b1620, 0, none⟩)), (3, .slice p1804 s1794.1.length c1805), (7, .int .i64 r1631), (8, .int .i64 s1794.2)] a) hw1802 (fun a ha => ⟨p1624, c1625, sg1626, ho1628, M1634.pick [0, 1] (by kernel_rfl), ha.sub (by kernel_rfl)⟩) ?_
    clear hm
    intro s1794 x1795 hm hout1796 a1797 w1798 ⟨p1804, c1805, sg1806, ho1807, M1799, hS1800⟩
    refine G_use hS1800 ?_
    refine G_seq ?_
    refine G_region ?_
    refine W_run 1 [(1, .pointer (some ⟨b1620, 0, none⟩)), (3, .slice p1804 s1794.1.length c1805), (7, .int .i64 r1631), (8, .int .i64 s1794.2), (9, .bool (decide (s1794.2 < r1631)))] w1798 (by kernel_rfl) ?_
    refine W_nil ?_
    refine N_then ?_
    refine G_seq ?_
    rcases gx_bif hm with ⟨hc1815, hm⟩ | ⟨hc1815, hm⟩
    · refine G_cond_t (b := (decide (s1794.2 < r1631))) hc1815 (by kernel_rfl) ?_
      refine G_skip ?_
      refine N_then ?_
      refine G_seq ?_
      refine G_block ?_
      refine G_seq ?_
      refine G_region ?_
      refine W_run 2 [(1, .pointer (some ⟨b1620, 0, none⟩)), (3, .slice p1804 s1794.1.length c1805), (4, .int .i64 s1794.2), (7, .int .i64 r1631), (8, .int .i64 s1794.2)] w1798 (by kernel_rfl) ?_
      refine W_nil ?_
      refine N_then ?_
      obtain ⟨q1818, hq1818, hm⟩ := gx_bind hm
      obtain ⟨y1819, hy1819, hm⟩ := gx_bind hm
      refine G_sub [(1, .pointer (some ⟨b1620, 0, none⟩)), (3, .slice p1804 s1794.1.length c1805), (4, .int .i64 s1794.2), (7, .int .i64 r1631), (8, .int .i64 s1794.2)] (by kernel_rfl) ?_
      refine G_dagL 14 [[], [], [1], [], [3], [], [4, 5], [], [7], [8], [6, 9], [2, 10], [11], [12]] [[], [], [], [], [], [], [], [], [], [], [], [], [], []] [[], [], [], [], [], [], [], [], [], [], [], [], [], []] [[], [], [], [], [], [], [], [], [], [], [], [], [], []] [[], [], [], [], [], [], [], [], [], [], [], [], [], []] [[], [], [], [], [], [], [], [], [], [], [], [], [], []] (fun _ => []) (fun i => ([fun f v s => v = (.slice p1804 s1794.1.length c1805 : Value) ∧ s = [], fun f v s => v = (.pointer (some ⟨b1620, 0, none⟩) : Value) ∧ s = [], fun f v s => v = (.slice p1612 x1610.Items.length c1613 : Value) ∧ s = [], fun f v s => v = (.pointer (some ⟨b1620, 1, none⟩) : Value) ∧ s = [], fun f v s => v = (.int .i64 x1610.Head : Value) ∧ s = [], fun f v s => v = (.int .i64 s1794.2 : Value) ∧ s = [], fun f v s => v = (.int .i64 (w64 (x1610.Head + s1794.2)) : Value) ∧ s = [], fun f v s => v = (.pointer (some ⟨b1620, 0, none⟩) : Value) ∧ s = [], fun f v s => v = (.slice p1612 x1610.Items.length c1613 : Value) ∧ s = [], fun f v s => v = (.int .i64 (x1610.Items.length : Int) : Value) ∧ s = [], fun f v s => v = (.int .i64 q1818 : Value) ∧ s = [], fun f v s => v = (elemP p1612 (q1818.toNat * 1) : Value) ∧ s = [], fun f v s => v = (.int .i64 y1819 : Value) ∧ s = [], fun f v s => ∃ (p1821 : Option Addr) (c1822 : Nat), v = (.slice p1821 [y1819].length c1822 : Value) ∧ ownS encI [y1819] p1821 c1822 s] : List ((Nat → Value) → Value → Seg → Prop)).getD i (fun _ _ _ => False)) (fun j f v => ∃ s, (fun i => ([fun f v s => v = (.slice p1804 s1794.1.length c1805 : Value) ∧ s = [], fun f v s => v = (.pointer (some ⟨b1620, 0, none⟩) : Value) ∧ s = [], fun f v s => v = (.slice p1612 x1610.Items.length c1613 : Value) ∧ s = [], fun f v s => v = (.pointer (some ⟨b1620, 1, none⟩) : Value) ∧ s = [], fun f v s => v = (.int .i64 x1610.Head : Value) ∧ s = [], fun f v s => v = (.int .i64 s1794.2 : Value) ∧ s = [], fun f v s => v = (.int .i64 (w64 (x1610.Head + s1794.2)) : Value) ∧ s = [], fun f v s => v = (.pointer (some ⟨b1620, 0, none⟩) : Value) ∧ s = [], fun f v s => v = (.slice p1612 x1610.Items.length c1613 : Value) ∧ s = [], fun f v s => v = (.int .i64 (x1610.Items.length : Int) : Value) ∧ s = [], fun f v s => v = (.int .i64 q1818 : Value) ∧ s = [], fun f v s => v = (elemP p1612 (q1818.toNat * 1) : Value) ∧ s = [], fun f v s => v = (.int .i64 y1819 : Value) ∧ s = [], fun f v s => ∃ (p1821 : Option Addr) (c1822 : Nat), v = (.slice p1821 [y1819].length c1822 : Value) ∧ ownS encI [y1819] p1821 c1822 s] : List ((Nat → Value) → Value → Seg → Prop)).getD i (fun _ _ _ => False)) j f v s) [] [0, 13] [13] (fun _ _ _ s h => ⟨s, h⟩) (by kernel_rfl) (by kernel_rfl) (M1799.preNil 14) (by kernel_rfl) (by kernel_rfl) (by kernel_rfl) (by kernel_rfl) (allOb_cons ?_ (allOb_cons ?_ (allOb_cons ?_ (allOb_cons ?_ (allOb_cons ?_ (allOb_cons ?_ (allOb_cons ?_ (allOb_cons ?_ (allOb_cons ?_ (allOb_cons ?_ (allOb_cons ?_ (allOb_cons ?_ (allOb_cons ?_ (allOb_cons ?_ allOb_nil)))))))))))))) ?_
      · intro g1816 f1817
        intro R w1825 M1826
        refine W_run 1 [(11, .slice p1804 s1794.1.length c1805)] w1825 (by kernel_rfl) ?_
        exact W_nil (ob_end (.slice p1804 s1794.1.length c1805) [] rfl (by kernel_rfl) ⟨by kernel_rfl, rfl⟩ M1826)
      · intro g1816 f1817
        intro R w1829 M1830
        refine W_run 1 [(12, .pointer (some ⟨b1620, 0, none⟩))] w1829 (by kernel_rfl) ?_
        exact W_nil (ob_end (.pointer (some ⟨b1620, 0, none⟩)) [] rfl (by kernel_rfl) ⟨by kernel_rfl, rfl⟩ M1830)
      · intro g1816 f1817
        intro v1_ hb1_
        obtain ⟨rfl, _⟩ := hb1_
        intro R w1833 M1834
        refine W_val (.slice p1612 x1610.Items.length c1613) w1833 (by kernel_rfl) (E_load (e := 27) (fr := (0, 0)) _ _ false 1 b1620 0 [.slice p1612 x1610.Items.length c1613, .int .i64 x1610.Head, .int .i64 x1610.Tail] (.slice p1612 x1610.Items.length c1613) rfl (by kernel_rfl) (by kernel_rfl) (by kernel_rfl) (M1834.blk 0 (b := b1620) (o := .cells ⟨[.slice p1612 x1610.Items.length c1613, .int .i64 x1610.Head, .int .i64 x1610.Tail]⟩ 27 (0, 0)) (by kernel_rfl))) ?_
        exact W_nil (ob_end (.slice p1612 x1610.Items.length c1613) [] rfl (by kernel_rfl) ⟨by kernel_rfl, rfl⟩ M1834)
      · intro g1816 f1817
        intro R w1837 M1838
        refine W_run 1 [(14, .pointer (some ⟨b1620, 1, none⟩))] w1837 (by kernel_rfl) ?_
        exact W_nil (ob_end (.pointer (some ⟨b1620, 1, none⟩)) [] rfl (by kernel_rfl) ⟨by kernel_rfl, rfl⟩ M1838)
      · intro g1816 f1817
        intro v3_ hb3_
        obtain ⟨rfl, _⟩ := hb3_
        intro R w1841 M1842
        refine W_val (.int .i64 x1610.Head) w1841 (by kernel_rfl) (E_load (e := 27) (fr := (0, 0)) _ _ false 1 b1620 1 [.slice p1612 x1610.Items.length c1613, .int .i64 x1610.Head, .int .i64 x1610.Tail] (.int .i64 x1610.Head) rfl (by kernel_rfl) (by kernel_rfl) (by kernel_rfl) (M1842.blk 0 (b := b1620) (o := .cells ⟨[.slice p1612 x1610.Items.length c1613, .int .i64 x1610.Head, .int .i64 x1610.Tail]⟩ 27 (0, 0)) (by kernel_rfl))) ?_
        exact W_nil (ob_end (.int .i64 x1610.Head) [] rfl (by kernel_rfl) ⟨by kernel_rfl, rfl⟩ M1842)
      · intro g1816 f1817
        intro R w1845 M1846
        refine W_run 1 [(16, .int .i64 s1794.2)] w1845 (by kernel_rfl) ?_
        exact W_nil (ob_end (.int .i64 s1794.2) [] rfl (by kernel_rfl) ⟨by kernel_rfl, rfl⟩ M1846)
      · intro g1816 f1817
        intro v4_ hb4_
        obtain ⟨rfl, _⟩ := hb4_
        intro v5_ hb5_
        obtain ⟨rfl, _⟩ := hb5_
        intro R w1849 M1850
        refine W_run 1 [(17, .int .i64 (w64 (x1610.Head + s1794.2)))] w1849 (by kernel_rfl) ?_
        exact W_nil (ob_end (.int .i64 (w64 (x1610.Head + s1794.2))) [] rfl (by kernel_rfl) ⟨by kernel_rfl, rfl⟩ M1850)
      · intro g1816 f1817
        intro R w1853 M1854
        refine W_run 1 [(18, .pointer (some ⟨b1620, 0, none⟩))] w1853 (by kernel_rfl) ?_
        exact W_nil (ob_end (.pointer (some ⟨b1620, 0, none⟩)) [] rfl (by kernel_rfl) ⟨by kernel_rfl, rfl⟩ M1854)
      · intro g1816 f1817
        intro v7_ hb7_
        obtain ⟨rfl, _⟩ := hb7_
        intro R w1857 M1858
        refine W_val (.slice p1612 x1610.Items.length c1613) w1857 (by kernel_rfl) (E_load (e := 27) (fr := (0, 0)) _ _ false 1 b1620 0 [.slice p1612 x1610.Items.length c1613, .int .i64 x1610.Head, .int .i64 x1610.Tail] (.slice p1612 x1610.Items.length c1613) rfl (by kernel_rfl) (by kernel_rfl) (by kernel_rfl) (M1858.blk 0 (b := b1620) (o := .cells ⟨[.slice p1612 x1610.Items.length c1613, .int .i64 x1610.Head, .int .i64 x1610.Tail]⟩ 27 (0, 0)) (by kernel_rfl))) ?_
        exact W_nil (ob_end (.slice p1612 x1610.Items.length c1613) [] rfl (by kernel_rfl) ⟨by kernel_rfl, rfl⟩ M1858)
      · intro g1816 f1817
        intro v8_ hb8_
        obtain ⟨rfl, _⟩ := hb8_
        intro R w1861 M1862
        refine W_run 1 [(20, .int .i64 (x1610.Items.length : Int))] w1861 (by kernel_rfl) ?_
        exact W_nil (ob_end (.int .i64 (x1610.Items.length : Int)) [] rfl (by kernel_rfl) ⟨by kernel_rfl, rfl⟩ M1862)
      · intro g1816 f1817
        intro v6_ hb6_
        obtain ⟨rfl, _⟩ := hb6_
        intro v9_ hb9_
        obtain ⟨rfl, _⟩ := hb9_
        intro R w1865 M1866
        refine W_val (.int .i64 q1818) w1865 (by kernel_rfl) (E_rem _ _ _ _ (w64 (x1610.Head + s1794.2)) (x1610.Items.length : Int) q1818 rfl (by kernel_rfl) (by kernel_rfl) hq1818) ?_
        exact W_nil (ob_end (.int .i64 q1818) [] rfl (by kernel_rfl) ⟨by kernel_rfl, rfl⟩ M1866)
      · intro g1816 f1817
        intro v2_ hb2_
        obtain ⟨rfl, _⟩ := hb2_
        intro v10_ hb10_
        obtain ⟨rfl, _⟩ := hb10_
        intro R w1869 M1870
        refine W_val (elemP p1612 (q1818.toNat * 1)) w1869 (by kernel_rfl) (E_index (E := encI) _ _ _ x1610.Items.length c1613 .i64 q1818 1 (y := y1819) rfl (by kernel_rfl) (by kernel_rfl) (by kernel_rfl) (h1614.mem0 M1870) rfl hy1819) ?_
        exact W_nil (ob_end (elemP p1612 (q1818.toNat * 1)) [] rfl (by kernel_rfl) ⟨by kernel_rfl, rfl⟩ M1870)
      · intro g1816 f1817
        intro v11_ hb11_
        obtain ⟨rfl, _⟩ := hb11_
        intro R w1873 M1874
        refine W_val (.int .i64 y1819) w1873 (by kernel_rfl) (E_loadE (E := encI) _ _ false 1 q1818 0 (q1818.toNat * 1) y1819 (.int .i64 y1819) rfl (by kernel_rfl) (by kernel_rfl) (by kernel_rfl) (h1614.mem0 M1874) hy1819 rfl) ?_
        exact W_nil (ob_end (.int .i64 y1819) [] rfl (by kernel_rfl) ⟨by kernel_rfl, rfl⟩ M1874)
      · intro g1816 f1817
        intro v12_ hb12_
        obtain ⟨rfl, _⟩ := hb12_
        intro R w1877 M1878
        refine W_lit (E := encI) [y1819] 1 [.int .i64 y1819] 3 M1878 (by kernel_rfl) (by kernel_rfl) (by kernel_rfl) (by kernel_rfl) (by kernel_rfl) ?_
        intro p1821 c1822 sg1823 w1879 ho1824 M1880
        exact W_nil (ob_end (.slice p1821 [y1819].length c1822) sg1823 rfl (by kernel_rfl) ⟨p1821, c1822, rfl, ho1824⟩ (Mem.mid M1880))
      · intro g1816 f1817
        intro v0_ hb0_
        obtain ⟨rfl, _⟩ := hb0_
        intro v13_ hb13_
        obtain ⟨p1821, c1822, rfl, ho1824⟩ := hb13_
        intro w1881 M1882
        have M1883 : Mem [] w w1881 [[(b1620, .cells ⟨[.slice p1612 x1610.Items.length c1613, .int .i64 x1610.Head, .int .i64 x1610.Tail]⟩ 27 (0, 0))], sg1806, (g1816 13)] := M1882
        obtain ⟨ap1884, hap1884, hm⟩ := gx_bind hm
        refine W_append (E := encI) _ _ _ 8 [.int .i64 0] 1 c1822 M1883 ho1807 (by kernel_rfl) (by kernel_rfl) (by kernel_rfl) rfl (by kernel_rfl) (by kernel_rfl) (by kernel_rfl) (by kernel_rfl) (by kernel_rfl) (by kernel_rfl) (ho1824.rd M1883 2 (by kernel_rfl)) hap1884 ?_
        intro p1885 c1886 sg1887 w1888 ho1889 M1890
        refine W_run 1 [(1, .pointer (some ⟨b1620, 0, none⟩)), (3, .slice p1885 ap1884.length c1886), (7, .int .i64 r1631), (8, .int .i64 s1794.2)] w1888 (by kernel_rfl) ?_
        refine W_nil ?_
        refine N_block ?_
        refine N_then ?_
        refine G_region ?_
        refine W_run 2 [(1, .pointer (some ⟨b1620, 0, none⟩)), (3, .slice p1885 ap1884.length c1886), (7, .int .i64 r1631), (8, .int .i64 (w64 (s1794.2 + 1)))] w1888 (by kernel_rfl) ?_
        refine W_nil ?_
        obtain rfl := Option.some.inj hm
        exact N_loop fun a ha => ⟨_, rfl, p1885, c1886, sg1887, ho1889, M1890.pick [0, 1] (by kernel_rfl), ha.sub (by kernel_rfl)⟩
    · refine G_cond_f (b := (decide (s1794.2 < r1631))) hc1815 (by kernel_rfl) ?_
      refine G_exit ?_
      refine N_then_exit ?_
      refine N_then_exit ?_
      refine N_block_eq ?_
      obtain rfl := Option.some.inj hm
      obtain rfl := hout1796 _ rfl
      exact N_meet fun a ha => ⟨p1804, c1805, sg1806, ho1807, M1799.pick [1] (by kernel_rfl), ha.sub (by kernel_rfl)⟩
  · intro a1892 w1893 ⟨p1810, c1811, sg1812, ho1813, M1894, hS1895⟩
    refine N_use hS1895 ?_
    have hm := hmo1803
    refine N_then ?_
    refine G_seq ?_
    refine G_region ?_
    refine W_run 2 [(2, .slice p1810 out1801.length c1811)] w1893 (by kernel_rfl) ?_
    refine W_nil ?_
    refine N_then ?_
    refine G_ret ?_
    obtain rfl := Option.some.inj hm
    refine N_ret [.slice p1810 out1801.length c1811] (RVs_cons (RV_tmp (by kernel_rfl)) RVs_nil) ?_
    exact ⟨p1810, c1811, sg1812, rfl, ho1813, M1894.pick [0] (by kernel_rfl)⟩
theorem c_i_RingWords (w : World) (x1590 : Ring) (p1592 : Option Addr) (c1593 : Nat) (h1594 : rdS encI w x1590.Items p1592 c1593) {r : (List Int) × Bool} (hm : M.i_RingWords x1590 = some r) :
    Calls Try.prog 26 #[.agg #[.slice p1592 x1590.Items.length c1593, .int .i64 x1590.Head, .int .i64 x1590.Tail]] w fun e w' => ∃ (p1596 : Option Addr) (c1597 : Nat) (sg1598 : Seg), e = .returned (.tuple #[.slice p1596 r.1.length c1597, .bool r.2]) ∧ ownS encI r.1 p1596 c1597 sg1598 ∧ Mem [] w w' [sg1598] := by
  unfold M.i_RingWords at hm
  refine C_enter Try.func26 rfl (by kernel_rfl) ?_
  have M0 := Mem.refl [] w
  refine G_seq ?_
  refine G_region ?_
  refine W_new (fun b => .pointer (some ⟨b, 0, none⟩)) (.cells ⟨[.slice p1592 x1590.Items.length c1593, .int .i64 x1590.Head, .int .i64 x1590.Tail]⟩ 27 (0, 0)) M0 rfl (by kernel_rfl) (by kernel_rfl) ?_
  intro b1600 w1601 M1602
  refine W_run 2 [(1, .pointer (some ⟨b1600, 0, none⟩))] w1601 (by kernel_rfl) ?_
  refine W_nil ?_
  refine N_then ?_
  refine G_seq ?_
  refine G_seq ?_
  refine G_region ?_
  refine W_val (.agg #[.slice p1592 x1590.Items.length c1593, .int .i64 x1590.Head, .int .i64 x1590.Tail]) w1601 (by kernel_rfl) (E_load (e := 27) (fr := (0, 0)) _ _ true 3 b1600 0 [.slice p1592 x1590.Items.length c1593, .int .i64 x1590.Head, .int .i64 x1590.Tail] (.agg #[.slice p1592 x1590.Items.length c1593, .int .i64 x1590.Head, .int .i64 x1590.Tail]) rfl (by kernel_rfl) (by kernel_rfl) (by kernel_rfl) (M1602.blk 0 (b := b1600) (o := .cells ⟨[.slice p1592 x1590.Items.length c1593, .int .i64 x1590.Head, .int .i64 x1590.Tail]⟩ 27 (0, 0)) (by kernel_rfl))) ?_
  obtain ⟨r1604, hr1604, hm⟩ := gx_bind hm
  refine W_call 24 #[.agg #[.slice p1592 x1590.Items.length c1593, .int .i64 x1590.Head, .int .i64 x1590.Tail]] (by kernel_rfl) (by kernel_rfl) ?_
  refine (c_i_IsRing w1601 x1590 p1592 c1593 (h1594.mem0 M1602) hr1604).mono ?_
  rintro e_ w1605 ⟨rfl, K1606⟩
  have M1607 := M1602.call0 K1606
  refine ⟨_, rfl, ?_⟩
  refine W_run 1 [(1, .pointer (some ⟨b1600, 0, none⟩)), (6, .bool (!r1604))] w1605 (by kernel_rfl) ?_
  refine W_nil ?_
  refine N_then ?_
  rcases gx_bif hm with ⟨hc1608, hm⟩ | ⟨hc1608, hm⟩
  · refine G_cond_t (b := (!r1604)) hc1608 (by kernel_rfl) ?_
    refine G_seq ?_
    refine G_region ?_
    refine W_run 2 [(2, .slice none 0 0), (3, .bool false)] w1605 (by kernel_rfl) ?_
    refine W_nil ?_
    refine N_then ?_
    refine G_ret ?_
    refine N_then_ret ?_
    obtain rfl := Option.some.inj hm
    refine N_ret [.slice none 0 0, .bool false] (RVs_cons (RV_tmp (by kernel_rfl)) (RVs_cons (RV_tmp (by kernel_rfl)) RVs_nil)) ?_
    exact ⟨none, 0, [], rfl, ownS_nil, M1607.pick [100000] (by kernel_rfl)⟩
  · refine G_cond_f (b := (!r1604)) hc1608 (by kernel_rfl) ?_
    refine G_skip ?_
    refine N_then ?_
    refine G_seq ?_
    refine G_region ?_
    refine W_val (.agg #[.slice p1592 x1590.Items.length c1593, .int .i64 x1590.Head, .int .i64 x1590.Tail]) w1605 (by kernel_rfl) (E_load (e := 27) (fr := (0, 0)) _ _ true 3 b1600 0 [.slice p1592 x1590.Items.length c1593, .int .i64 x1590.Head, .int .i64 x1590.Tail] (.agg #[.slice p1592 x1590.Items.length c1593, .int .i64 x1590.Head, .int .i64 x1590.Tail]) rfl (by kernel_rfl) (by kernel_rfl) (by kernel_rfl) (M1607.blk 0 (b := b1600) (o := .cells ⟨[.slice p1592 x1590.Items.length c1593, .int .i64 x1590.Head, .int .i64 x1590.Tail]⟩ 27 (0, 0)) (by kernel_rfl))) ?_
    obtain ⟨r1896, hr1896, hm⟩ := gx_bind hm
    refine W_call 61 #[.agg #[.slice p1592 x1590.Items.length c1593, .int .i64 x1590.Head, .int .i64 x1590.Tail]] (by kernel_rfl) (by kernel_rfl) ?_
    refine (c_i_ringWords w1605 x1590 p1592 c1593 (h1594.mem0 M1607) hr1896).mono ?_
    rintro e_ w1902 ⟨p1898, c1899, sg1900, rfl, ho1901, K1903⟩
    have M1904 := M1607.call K1903
    refine ⟨_, rfl, ?_⟩
    refine W_run 2 [(2, .slice p1898 r1896.length c1899), (3, .bool true)] w1902 (by kernel_rfl) ?_
    refine W_nil ?_
    refine N_then ?_
    refine G_ret ?_
    obtain rfl := Option.some.inj hm
    refine N_ret [.slice p1898 r1896.length c1899, .bool true] (RVs_cons (RV_tmp (by kernel_rfl)) (RVs_cons (RV_tmp (by kernel_rfl)) RVs_nil)) ?_
    exact ⟨p1898, c1899, sg1900, rfl, ho1901, M1904.pick [1] (by kernel_rfl)⟩
end Go.Proofs.Ytopnablbecepjaa
