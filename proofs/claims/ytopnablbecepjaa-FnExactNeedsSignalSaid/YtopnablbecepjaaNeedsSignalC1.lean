/- The walks, printed by program: whenever the model gives r, the call returns r. Part 1. -/
import Derived.Test.YtopnablbecepjaaNeedsSignalM
import Derived.Test.YtopnablbecepjaaProg
set_option linter.unusedVariables false
set_option maxRecDepth 100000
set_option maxHeartbeats 4000000
namespace Go.Proofs.Ytopnablbecepjaa
open Go.Gx
theorem c_s_l1In (w : World) (x8 : Int) (x9 : Int) (x10 : Int) {r : Bool} (hm : M.s_l1In x8 x9 x10 = some r) :
    Calls Try.prog 77 #[.int .i64 x8, .int .i64 x9, .int .i64 x10] w fun e w' => e = .returned (.bool r) ∧ Mem [] w w' [] := by
  unfold M.s_l1In at hm
  refine C_enter Try.func77 rfl (by kernel_rfl) ?_
  have M0 := Mem.refl [] w
  refine G_seq ?_
  refine G_region ?_
  refine W_run 1 [(0, .int .i64 x8), (1, .int .i64 x9), (2, .int .i64 x10)] w (by kernel_rfl) ?_
  refine W_nil ?_
  refine N_then ?_
  refine G_seq ?_
  obtain ⟨o12, ho13, hm14⟩ := gx_bind hm
  refine G_meet (fun a w' => Mem [] w w' [] ∧ Sat Try.f77.ntmps [(6, .bool o12)] a) ?_ ?_
  · have hm := ho13
    refine G_region ?_
    refine W_run 4 [(0, .int .i64 x8), (2, .int .i64 x10), (10, .bool (decide (x8 ≥ x9)))] w (by kernel_rfl) ?_
    rcases gx_bif hm with ⟨hc15, hm⟩ | ⟨hc15, hm⟩
    · refine W_known 10 true (by kernel_rfl) hc15 ?_
      refine W_run 5 [(6, .bool (decide (x8 ≤ x10)))] w (by kernel_rfl) ?_
      refine W_nil ?_
      obtain rfl := Option.some.inj hm
      exact N_meet fun a ha => ⟨M0.pick [] (by kernel_rfl), ha.sub (by kernel_rfl)⟩
    · refine W_known 10 false (by kernel_rfl) hc15 ?_
      refine W_run 5 [(6, .bool false)] w (by kernel_rfl) ?_
      refine W_nil ?_
      obtain rfl := Option.some.inj hm
      exact N_meet fun a ha => ⟨M0.pick [] (by kernel_rfl), ha.sub (by kernel_rfl)⟩
  · intro a18 w16 ⟨M17, hS19⟩
    refine N_use hS19 ?_
    have hm := hm14
    refine N_then ?_
    refine G_ret ?_
    obtain rfl := Option.some.inj hm
    refine N_ret [.bool o12] (RVs_cons (RV_tmp (by kernel_rfl)) RVs_nil) ?_
    exact ⟨rfl, M17.pick [] (by kernel_rfl)⟩
theorem c_s_l2Word16 (w : World) (x7 : Int) {r : Bool} (hm : M.s_l2Word16 x7 = some r) :
    Calls Try.prog 52 #[.int .i64 x7] w fun e w' => e = .returned (.bool r) ∧ Mem [] w w' [] := by
  unfold M.s_l2Word16 at hm
  refine C_enter Try.func52 rfl (by kernel_rfl) ?_
  have M0 := Mem.refl [] w
  refine G_seq ?_
  refine G_region ?_
  refine W_run 1 [(0, .int .i64 x7)] w (by kernel_rfl) ?_
  refine W_nil ?_
  refine N_then ?_
  refine G_seq ?_
  refine G_region ?_
  refine W_run 1 [(3, .int .i64 x7)] w (by kernel_rfl) ?_
  obtain ⟨r20, hr20, hm⟩ := gx_bind hm
  refine W_call 77 #[.int .i64 x7, .int .i64 0, .int .i64 65535] (by kernel_rfl) (by kernel_rfl) ?_
  refine (c_s_l1In w x7 0 65535 hr20).mono ?_
  rintro e_ w21 ⟨rfl, K22⟩
  have M23 := M0.call0 K22
  refine ⟨_, rfl, ?_⟩
  refine W_run 1 [(2, .bool r20)] w21 (by kernel_rfl) ?_
  refine W_nil ?_
  refine N_then ?_
  refine G_ret ?_
  obtain rfl := Option.some.inj hm
  refine N_ret [.bool r20] (RVs_cons (RV_tmp (by kernel_rfl)) RVs_nil) ?_
  exact ⟨rfl, M23.pick [] (by kernel_rfl)⟩
theorem c_s_NeedsSignal (w : World) (x4 : Int) (x5 : Int) (x6 : Int) {r : Bool × Bool} (hm : M.s_NeedsSignal x4 x5 x6 = some r) :
    Calls Try.prog 14 #[.int .i64 x4, .int .i64 x5, .int .i64 x6] w fun e w' => e = .returned (.tuple #[.bool r.1, .bool r.2]) ∧ Mem [] w w' [] := by
  unfold M.s_NeedsSignal at hm
  refine C_enter Try.func14 rfl (by kernel_rfl) ?_
  have M0 := Mem.refl [] w
  refine G_seq ?_
  refine G_region ?_
  refine W_run 2 [(0, .int .i64 x4), (1, .int .i64 x5), (2, .int .i64 x6)] w (by kernel_rfl) ?_
  refine W_nil ?_
  refine N_then ?_
  refine G_seq ?_
  refine G_seq ?_
  obtain ⟨o38, ho39, hm40⟩ := gx_bind hm
  refine G_meet (fun a w' => Mem [] w w' [] ∧ Sat Try.f14.ntmps [(0, .int .i64 x4), (1, .int .i64 x5), (2, .int .i64 x6), (20, .bool o38)] a) ?_ ?_
  · have hm := ho39
    refine G_region ?_
    refine W_run 1 [(0, .int .i64 x4), (1, .int .i64 x5), (2, .int .i64 x6), (8, .int .i64 x4)] w (by kernel_rfl) ?_
    obtain ⟨r41, hr41, hm⟩ := gx_bind hm
    refine W_call 52 #[.int .i64 x4] (by kernel_rfl) (by kernel_rfl) ?_
    refine (c_s_l2Word16 w x4 hr41).mono ?_
    rintro e_ w42 ⟨rfl, K43⟩
    have M44 := M0.call0 K43
    refine ⟨_, rfl, ?_⟩
    refine W_run 2 [(0, .int .i64 x4), (1, .int .i64 x5), (2, .int .i64 x6), (11, .bool (!r41))] w42 (by kernel_rfl) ?_
    rcases gx_bif hm with ⟨hc45, hm⟩ | ⟨hc45, hm⟩
    · refine W_known 11 true (by kernel_rfl) hc45 ?_
      refine W_run 9 [(0, .int .i64 x4), (1, .int .i64 x5), (2, .int .i64 x6), (20, .bool true)] w42 (by kernel_rfl) ?_
      refine W_nil ?_
      obtain rfl := Option.some.inj hm
      exact N_meet fun a ha => ⟨M44.pick [] (by kernel_rfl), ha.sub (by kernel_rfl)⟩
    · refine W_known 11 false (by kernel_rfl) hc45 ?_
      refine W_run 1 [(0, .int .i64 x4), (1, .int .i64 x5), (2, .int .i64 x6), (11, .bool false), (12, .int .i64 x5)] w42 (by kernel_rfl) ?_
      obtain ⟨r46, hr46, hm⟩ := gx_bind hm
      refine W_call 52 #[.int .i64 x5] (by kernel_rfl) (by kernel_rfl) ?_
      refine (c_s_l2Word16 w42 x5 hr46).mono ?_
      rintro e_ w47 ⟨rfl, K48⟩
      have M49 := M44.call0 K48
      refine ⟨_, rfl, ?_⟩
      refine W_run 3 [(0, .int .i64 x4), (1, .int .i64 x5), (2, .int .i64 x6), (16, .bool (!r46))] w47 (by kernel_rfl) ?_
      rcases gx_bif hm with ⟨hc50, hm⟩ | ⟨hc50, hm⟩
      · refine W_known 16 true (by kernel_rfl) hc50 ?_
        refine W_run 4 [(0, .int .i64 x4), (1, .int .i64 x5), (2, .int .i64 x6), (20, .bool true)] w47 (by kernel_rfl) ?_
        refine W_nil ?_
        obtain rfl := Option.some.inj hm
        exact N_meet fun a ha => ⟨M49.pick [] (by kernel_rfl), ha.sub (by kernel_rfl)⟩
      · refine W_known 16 false (by kernel_rfl) hc50 ?_
        refine W_run 1 [(0, .int .i64 x4), (1, .int .i64 x5), (2, .int .i64 x6), (16, .bool false), (17, .int .i64 x6)] w47 (by kernel_rfl) ?_
        obtain ⟨r51, hr51, hm⟩ := gx_bind hm
        refine W_call 52 #[.int .i64 x6] (by kernel_rfl) (by kernel_rfl) ?_
        refine (c_s_l2Word16 w47 x6 hr51).mono ?_
        rintro e_ w52 ⟨rfl, K53⟩
        have M54 := M49.call0 K53
        refine ⟨_, rfl, ?_⟩
        refine W_run 2 [(0, .int .i64 x4), (1, .int .i64 x5), (2, .int .i64 x6), (20, .bool (!r51))] w52 (by kernel_rfl) ?_
        refine W_nil ?_
        obtain rfl := Option.some.inj hm
        exact N_meet fun a ha => ⟨M54.pick [] (by kernel_rfl), ha.sub (by kernel_rfl)⟩
  · intro a57 w55 ⟨M56, hS58⟩
    refine N_use hS58 ?_
    have hm := hm40
    refine N_then ?_
    rcases gx_bif hm with ⟨hc59, hm⟩ | ⟨hc59, hm⟩
    · refine G_cond_t (b := o38) hc59 (by kernel_rfl) ?_
      refine G_seq ?_
      refine G_region ?_
      refine W_run 2 [(6, .bool false), (7, .bool false)] w55 (by kernel_rfl) ?_
      refine W_nil ?_
      refine N_then ?_
      refine G_ret ?_
      refine N_then_ret ?_
      obtain rfl := Option.some.inj hm
      refine N_ret [.bool false, .bool false] (RVs_cons (RV_tmp (by kernel_rfl)) (RVs_cons (RV_tmp (by kernel_rfl)) RVs_nil)) ?_
      exact ⟨rfl, M56.pick [] (by kernel_rfl)⟩
    · refine G_cond_f (b := o38) hc59 (by kernel_rfl) ?_
      refine G_skip ?_
      refine N_then ?_
      refine G_seq ?_
      refine G_region ?_
      refine W_run 13 [(6, .bool (decide (((w64 ((w64 (x6 - x4)) + 65536)).tmod 65536) < ((w64 ((w64 (x5 - x4)) + 65536)).tmod 65536)))), (7, .bool true)] w55 (by kernel_rfl) ?_
      refine W_nil ?_
      refine N_then ?_
      refine G_ret ?_
      obtain rfl := Option.some.inj hm
      refine N_ret [.bool (decide (((w64 ((w64 (x6 - x4)) + 65536)).tmod 65536) < ((w64 ((w64 (x5 - x4)) + 65536)).tmod 65536))), .bool true] (RVs_cons (RV_tmp (by kernel_rfl)) (RVs_cons (RV_tmp (by kernel_rfl)) RVs_nil)) ?_
      exact ⟨rfl, M56.pick [] (by kernel_rfl)⟩
theorem c_i_inside (w : World) (x68 : Int) (x69 : Int) (x70 : Int) {r : Bool} (hm : M.i_inside x68 x69 x70 = some r) :
    Calls Try.prog 78 #[.int .i64 x68, .int .i64 x69, .int .i64 x70] w fun e w' => e = .returned (.bool r) ∧ Mem [] w w' [] := by
  unfold M.i_inside at hm
  refine C_enter Try.func78 rfl (by kernel_rfl) ?_
  have M0 := Mem.refl [] w
  refine G_seq ?_
  refine G_region ?_
  refine W_run 1 [(0, .int .i64 x68), (1, .int .i64 x69), (2, .int .i64 x70)] w (by kernel_rfl) ?_
  refine W_nil ?_
  refine N_then ?_
  refine G_seq ?_
  obtain ⟨o72, ho73, hm74⟩ := gx_bind hm
  refine G_meet (fun a w' => Mem [] w w' [] ∧ Sat Try.f78.ntmps [(6, .bool o72)] a) ?_ ?_
  · have hm := ho73
    refine G_region ?_
    refine W_run 4 [(0, .int .i64 x68), (2, .int .i64 x70), (10, .bool (decide (x68 ≥ x69)))] w (by kernel_rfl) ?_
    rcases gx_bif hm with ⟨hc75, hm⟩ | ⟨hc75, hm⟩
    · refine W_known 10 true (by kernel_rfl) hc75 ?_
      refine W_run 5 [(6, .bool (decide (x68 ≤ x70)))] w (by kernel_rfl) ?_
      refine W_nil ?_
      obtain rfl := Option.some.inj hm
      exact N_meet fun a ha => ⟨M0.pick [] (by kernel_rfl), ha.sub (by kernel_rfl)⟩
    · refine W_known 10 false (by kernel_rfl) hc75 ?_
      refine W_run 5 [(6, .bool false)] w (by kernel_rfl) ?_
      refine W_nil ?_
      obtain rfl := Option.some.inj hm
      exact N_meet fun a ha => ⟨M0.pick [] (by kernel_rfl), ha.sub (by kernel_rfl)⟩
  · intro a78 w76 ⟨M77, hS79⟩
    refine N_use hS79 ?_
    have hm := hm74
    refine N_then ?_
    refine G_ret ?_
    obtain rfl := Option.some.inj hm
    refine N_ret [.bool o72] (RVs_cons (RV_tmp (by kernel_rfl)) RVs_nil) ?_
    exact ⟨rfl, M77.pick [] (by kernel_rfl)⟩
theorem c_i_isWord16 (w : World) (x67 : Int) {r : Bool} (hm : M.i_isWord16 x67 = some r) :
    Calls Try.prog 53 #[.int .i64 x67] w fun e w' => e = .returned (.bool r) ∧ Mem [] w w' [] := by
  unfold M.i_isWord16 at hm
  refine C_enter Try.func53 rfl (by kernel_rfl) ?_
  have M0 := Mem.refl [] w
  refine G_seq ?_
  refine G_region ?_
  refine W_run 1 [(0, .int .i64 x67)] w (by kernel_rfl) ?_
  refine W_nil ?_
  refine N_then ?_
  refine G_seq ?_
  refine G_region ?_
  refine W_run 1 [(3, .int .i64 x67)] w (by kernel_rfl) ?_
  obtain ⟨r80, hr80, hm⟩ := gx_bind hm
  refine W_call 78 #[.int .i64 x67, .int .i64 0, .int .i64 65535] (by kernel_rfl) (by kernel_rfl) ?_
  refine (c_i_inside w x67 0 65535 hr80).mono ?_
  rintro e_ w81 ⟨rfl, K82⟩
  have M83 := M0.call0 K82
  refine ⟨_, rfl, ?_⟩
  refine W_run 1 [(2, .bool r80)] w81 (by kernel_rfl) ?_
  refine W_nil ?_
  refine N_then ?_
  refine G_ret ?_
  obtain rfl := Option.some.inj hm
  refine N_ret [.bool r80] (RVs_cons (RV_tmp (by kernel_rfl)) RVs_nil) ?_
  exact ⟨rfl, M83.pick [] (by kernel_rfl)⟩
theorem c_i_stepsTo (w : World) (x120 : Int) (x121 : Int) {r : Int} (hm : M.i_stepsTo x120 x121 = some r) :
    Calls Try.prog 54 #[.int .i64 x120, .int .i64 x121] w fun e w' => e = .returned (.int .i64 r) ∧ Mem [] w w' [] := by
  unfold M.i_stepsTo at hm
  refine C_enter Try.func54 rfl (by kernel_rfl) ?_
  have M0 := Mem.refl [] w
  refine G_seq ?_
  refine G_region ?_
  refine W_run 1 [(0, .int .i64 x120), (1, .int .i64 x121)] w (by kernel_rfl) ?_
  refine W_nil ?_
  refine N_then ?_
  refine G_seq ?_
  refine G_region ?_
  refine W_run 5 [(4, .int .i64 (gxAnd .i64 (w64 (x121 - x120)) 65535))] w (by kernel_rfl) ?_
  refine W_nil ?_
  refine N_then ?_
  refine G_ret ?_
  obtain rfl := Option.some.inj hm
  refine N_ret [.int .i64 (gxAnd .i64 (w64 (x121 - x120)) 65535)] (RVs_cons (RV_tmp (by kernel_rfl)) RVs_nil) ?_
  exact ⟨rfl, M0.pick [] (by kernel_rfl)⟩
theorem c_i_NeedsSignal (w : World) (x64 : Int) (x65 : Int) (x66 : Int) {r : Bool × Bool} (hm : M.i_NeedsSignal x64 x65 x66 = some r) :
    Calls Try.prog 15 #[.int .i64 x64, .int .i64 x65, .int .i64 x66] w fun e w' => e = .returned (.tuple #[.bool r.1, .bool r.2]) ∧ Mem [] w w' [] := by
  unfold M.i_NeedsSignal at hm
  refine C_enter Try.func15 rfl (by kernel_rfl) ?_
  have M0 := Mem.refl [] w
  refine G_seq ?_
  refine G_region ?_
  refine W_run 2 [(0, .int .i64 x64), (1, .int .i64 x65), (2, .int .i64 x66)] w (by kernel_rfl) ?_
  refine W_nil ?_
  refine N_then ?_
  refine G_seq ?_
  refine G_seq ?_
  obtain ⟨o98, ho99, hm100⟩ := gx_bind hm
  refine G_meet (fun a w' => Mem [] w w' [] ∧ Sat Try.f15.ntmps [(0, .int .i64 x64), (1, .int .i64 x65), (2, .int .i64 x66), (20, .bool o98)] a) ?_ ?_
  · have hm := ho99
    refine G_region ?_
    refine W_run 1 [(0, .int .i64 x64), (1, .int .i64 x65), (2, .int .i64 x66), (8, .int .i64 x64)] w (by kernel_rfl) ?_
    obtain ⟨r101, hr101, hm⟩ := gx_bind hm
    refine W_call 53 #[.int .i64 x64] (by kernel_rfl) (by kernel_rfl) ?_
    refine (c_i_isWord16 w x64 hr101).mono ?_
    rintro e_ w102 ⟨rfl, K103⟩
    have M104 := M0.call0 K103
    refine ⟨_, rfl, ?_⟩
    refine W_run 2 [(0, .int .i64 x64), (1, .int .i64 x65), (2, .int .i64 x66), (11, .bool (!r101))] w102 (by kernel_rfl) ?_
    rcases gx_bif hm with ⟨hc105, hm⟩ | ⟨hc105, hm⟩
    · refine W_known 11 true (by kernel_rfl) hc105 ?_
      refine W_run 9 [(0, .int .i64 x64), (1, .int .i64 x65), (2, .int .i64 x66), (20, .bool true)] w102 (by kernel_rfl) ?_
      refine W_nil ?_
      obtain rfl := Option.some.inj hm
      exact N_meet fun a ha => ⟨M104.pick [] (by kernel_rfl), ha.sub (by kernel_rfl)⟩
    · refine W_known 11 false (by kernel_rfl) hc105 ?_
      refine W_run 1 [(0, .int .i64 x64), (1, .int .i64 x65), (2, .int .i64 x66), (11, .bool false), (12, .int .i64 x65)] w102 (by kernel_rfl) ?_
      obtain ⟨r106, hr106, hm⟩ := gx_bind hm
      refine W_call 53 #[.int .i64 x65] (by kernel_rfl) (by kernel_rfl) ?_
      refine (c_i_isWord16 w102 x65 hr106).mono ?_
      rintro e_ w107 ⟨rfl, K108⟩
      have M109 := M104.call0 K108
      refine ⟨_, rfl, ?_⟩
      refine W_run 3 [(0, .int .i64 x64), (1, .int .i64 x65), (2, .int .i64 x66), (16, .bool (!r106))] w107 (by kernel_rfl) ?_
      rcases gx_bif hm with ⟨hc110, hm⟩ | ⟨hc110, hm⟩
      · refine W_known 16 true (by kernel_rfl) hc110 ?_
        refine W_run 4 [(0, .int .i64 x64), (1, .int .i64 x65), (2, .int .i64 x66), (20, .bool true)] w107 (by kernel_rfl) ?_
        refine W_nil ?_
        obtain rfl := Option.some.inj hm
        exact N_meet fun a ha => ⟨M109.pick [] (by kernel_rfl), ha.sub (by kernel_rfl)⟩
      · refine W_known 16 false (by kernel_rfl) hc110 ?_
        refine W_run 1 [(0, .int .i64 x64), (1, .int .i64 x65), (2, .int .i64 x66), (16, .bool false), (17, .int .i64 x66)] w107 (by kernel_rfl) ?_
        obtain ⟨r111, hr111, hm⟩ := gx_bind hm
        refine W_call 53 #[.int .i64 x66] (by kernel_rfl) (by kernel_rfl) ?_
        refine (c_i_isWord16 w107 x66 hr111).mono ?_
        rintro e_ w112 ⟨rfl, K113⟩
        have M114 := M109.call0 K113
        refine ⟨_, rfl, ?_⟩
        refine W_run 2 [(0, .int .i64 x64), (1, .int .i64 x65), (2, .int .i64 x66), (20, .bool (!r111))] w112 (by kernel_rfl) ?_
        refine W_nil ?_
        obtain rfl := Option.some.inj hm
        exact N_meet fun a ha => ⟨M114.pick [] (by kernel_rfl), ha.sub (by kernel_rfl)⟩
  · intro a117 w115 ⟨M116, hS118⟩
    refine N_use hS118 ?_
    have hm := hm100
    refine N_then ?_
    rcases gx_bif hm with ⟨hc119, hm⟩ | ⟨hc119, hm⟩
    · refine G_cond_t (b := o98) hc119 (by kernel_rfl) ?_
      refine G_seq ?_
      refine G_region ?_
      refine W_run 2 [(6, .bool false), (7, .bool false)] w115 (by kernel_rfl) ?_
      refine W_nil ?_
      refine N_then ?_
      refine G_ret ?_
      refine N_then_ret ?_
      obtain rfl := Option.some.inj hm
      refine N_ret [.bool false, .bool false] (RVs_cons (RV_tmp (by kernel_rfl)) (RVs_cons (RV_tmp (by kernel_rfl)) RVs_nil)) ?_
      exact ⟨rfl, M116.pick [] (by kernel_rfl)⟩
    · refine G_cond_f (b := o98) hc119 (by kernel_rfl) ?_
      refine G_skip ?_
      refine N_then ?_
      refine G_seq ?_
      refine G_region ?_
      refine W_run 2 [(0, .int .i64 x64), (1, .int .i64 x65), (21, .int .i64 x64), (22, .int .i64 x66)] w115 (by kernel_rfl) ?_
      obtain ⟨r122, hr122, hm⟩ := gx_bind hm
      refine W_call 54 #[.int .i64 x64, .int .i64 x66] (by kernel_rfl) (by kernel_rfl) ?_
      refine (c_i_stepsTo w115 x64 x66 hr122).mono ?_
      rintro e_ w123 ⟨rfl, K124⟩
      have M125 := M116.call0 K124
      refine ⟨_, rfl, ?_⟩
      refine W_run 2 [(23, .int .i64 r122), (24, .int .i64 x64), (25, .int .i64 x65)] w123 (by kernel_rfl) ?_
      obtain ⟨r126, hr126, hm⟩ := gx_bind hm
      refine W_call 54 #[.int .i64 x64, .int .i64 x65] (by kernel_rfl) (by kernel_rfl) ?_
      refine (c_i_stepsTo w123 x64 x65 hr126).mono ?_
      rintro e_ w127 ⟨rfl, K128⟩
      have M129 := M125.call0 K128
      refine ⟨_, rfl, ?_⟩
      refine W_run 3 [(6, .bool (decide (r122 < r126))), (7, .bool true)] w127 (by kernel_rfl) ?_
      refine W_nil ?_
      refine N_then ?_
      refine G_ret ?_
      obtain rfl := Option.some.inj hm
      refine N_ret [.bool (decide (r122 < r126)), .bool true] (RVs_cons (RV_tmp (by kernel_rfl)) (RVs_cons (RV_tmp (by kernel_rfl)) RVs_nil)) ?_
      exact ⟨rfl, M129.pick [] (by kernel_rfl)⟩
theorem c_l_FnExactNeedsSignal (w : World) (x1 : Int) (x2 : Int) (x3 : Int) {r : Bool} (hm : M.l_FnExactNeedsSignal x1 x2 x3 = some r) :
    Calls Try.prog 3 #[.int .i64 x1, .int .i64 x2, .int .i64 x3] w fun e w' => e = .returned (.bool r) ∧ Mem [] w w' [] := by
  unfold M.l_FnExactNeedsSignal at hm
  refine C_enter Try.func3 rfl (by kernel_rfl) ?_
  have M0 := Mem.refl [] w
  refine G_seq ?_
  refine G_region ?_
  refine W_run 1 [(0, .int .i64 x1), (1, .int .i64 x2), (2, .int .i64 x3)] w (by kernel_rfl) ?_
  refine W_nil ?_
  refine N_then ?_
  refine G_seq ?_
  refine G_region ?_
  refine W_run 3 [(0, .int .i64 x1), (1, .int .i64 x2), (2, .int .i64 x3), (12, .int .i64 x1), (13, .int .i64 x2), (14, .int .i64 x3)] w (by kernel_rfl) ?_
  obtain ⟨r60, hr60, hm⟩ := gx_bind hm
  refine W_call 14 #[.int .i64 x1, .int .i64 x2, .int .i64 x3] (by kernel_rfl) (by kernel_rfl) ?_
  refine (c_s_NeedsSignal w x1 x2 x3 hr60).mono ?_
  rintro e_ w61 ⟨rfl, K62⟩
  have M63 := M0.call0 K62
  refine ⟨_, rfl, ?_⟩
  refine W_run 5 [(0, .int .i64 x1), (1, .int .i64 x2), (2, .int .i64 x3), (7, .bool r60.1), (8, .bool r60.2)] w61 (by kernel_rfl) ?_
  refine W_nil ?_
  refine N_then ?_
  refine G_seq ?_
  refine G_region ?_
  refine W_run 3 [(7, .bool r60.1), (8, .bool r60.2), (19, .int .i64 x1), (20, .int .i64 x2), (21, .int .i64 x3)] w61 (by kernel_rfl) ?_
  obtain ⟨r130, hr130, hm⟩ := gx_bind hm
  refine W_call 15 #[.int .i64 x1, .int .i64 x2, .int .i64 x3] (by kernel_rfl) (by kernel_rfl) ?_
  refine (c_i_NeedsSignal w61 x1 x2 x3 hr130).mono ?_
  rintro e_ w131 ⟨rfl, K132⟩
  have M133 := M63.call0 K132
  refine ⟨_, rfl, ?_⟩
  refine W_run 5 [(7, .bool r60.1), (8, .bool r60.2), (9, .bool r130.1), (10, .bool r130.2)] w131 (by kernel_rfl) ?_
  refine W_nil ?_
  refine N_then ?_
  refine G_seq ?_
  refine G_seq ?_
  obtain ⟨o135, ho136, hm137⟩ := gx_bind hm
  refine G_meet (fun a w' => Mem [] w w' [] ∧ Sat Try.f3.ntmps [(32, .bool o135)] a) ?_ ?_
  · have hm := ho136
    refine G_region ?_
    refine W_run 4 [(8, .bool r60.2), (10, .bool r130.2), (28, .bool (!(r130.1 == r60.1)))] w131 (by kernel_rfl) ?_
    rcases gx_bif hm with ⟨hc138, hm⟩ | ⟨hc138, hm⟩
    · refine W_known 28 true (by kernel_rfl) hc138 ?_
      refine W_run 4 [(32, .bool true)] w131 (by kernel_rfl) ?_
      refine W_nil ?_
      obtain rfl := Option.some.inj hm
      exact N_meet fun a ha => ⟨M133.pick [] (by kernel_rfl), ha.sub (by kernel_rfl)⟩
    · refine W_known 28 false (by kernel_rfl) hc138 ?_
      refine W_run 4 [(32, .bool (!(r130.2 == r60.2)))] w131 (by kernel_rfl) ?_
      refine W_nil ?_
      obtain rfl := Option.some.inj hm
      exact N_meet fun a ha => ⟨M133.pick [] (by kernel_rfl), ha.sub (by kernel_rfl)⟩
  · intro a141 w139 ⟨M140, hS142⟩
    refine N_use hS142 ?_
    have hm := hm137
    refine N_then ?_
    rcases gx_bif hm with ⟨hc143, hm⟩ | ⟨hc143, hm⟩
    · refine G_cond_t (b := o135) hc143 (by kernel_rfl) ?_
      refine G_seq ?_
      refine G_region ?_
      refine W_run 1 [(6, .bool false)] w139 (by kernel_rfl) ?_
      refine W_nil ?_
      refine N_then ?_
      refine G_ret ?_
      refine N_then_ret ?_
      obtain rfl := Option.some.inj hm
      refine N_ret [.bool false] (RVs_cons (RV_tmp (by kernel_rfl)) RVs_nil) ?_
      exact ⟨rfl, M140.pick [] (by kernel_rfl)⟩
    · refine G_cond_f (b := o135) hc143 (by kernel_rfl) ?_
      refine G_skip ?_
      refine N_then ?_
      refine G_seq ?_
      refine G_region ?_
      refine W_run 1 [(6, .bool true)] w139 (by kernel_rfl) ?_
      refine W_nil ?_
      refine N_then ?_
      refine G_ret ?_
      obtain rfl := Option.some.inj hm
      refine N_ret [.bool true] (RVs_cons (RV_tmp (by kernel_rfl)) RVs_nil) ?_
      exact ⟨rfl, M140.pick [] (by kernel_rfl)⟩
end Go.Proofs.Ytopnablbecepjaa
