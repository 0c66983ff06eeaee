/- The walks, printed by program: whenever the model gives r, the call returns r. Part 3. -/
import Derived.Test.YtlfligjpmodefaaM
import Derived.Test.YtlfligjpmodefaaProg
import Derived.Test.YtlfligjpmodefaaC2
set_option linter.unusedVariables false
set_option maxRecDepth 100000
set_option maxHeartbeats 4000000
namespace Go.Proofs.Ytlfligjpmodefaa
open Go.Gx
theorem c_i_framesOf (w : World) (x5472 : List Int) (p5474 : Option Addr) (c5475 : Nat) (h5476 : rdS encI w x5472 p5474 c5475) (x5477 : Int) {r : (List Int)} (hm : M.i_framesOf x5472 x5477 = some r) :
    Calls Try.prog 66 #[.slice p5474 x5472.length c5475, .int .i64 x5477] w fun e w' => ∃ (p5479 : Option Addr) (c5480 : Nat) (sg5481 : Seg), e = .returned (.slice p5479 r.length c5480) ∧ ownS encI r p5479 c5480 sg5481 ∧ Mem [] w w' [sg5481] := by
  unfold M.i_framesOf at hm
  refine C_enter Try.func66 rfl (by kernel_rfl) ?_
  have M0 := Mem.refl [] w
  refine G_seq ?_
  refine G_region ?_
  refine W_run 1 [(0, .slice p5474 x5472.length c5475), (1, .int .i64 x5477)] w (by kernel_rfl) ?_
  refine W_nil ?_
  refine N_then ?_
  refine G_seq ?_
  refine G_region ?_
  refine W_lit (E := encI) ([] : List Int) 0 [] 3 M0 (by kernel_rfl) (by kernel_rfl) (by kernel_rfl) (by kernel_rfl) (by kernel_rfl) ?_
  intro p5483 c5484 sg5485 w5486 ho5487 M5488
  refine W_run 1 [(0, .slice p5474 x5472.length c5475), (1, .int .i64 x5477), (5, .slice p5483 ([] : List Int).length c5484)] w5486 (by kernel_rfl) ?_
  refine W_nil ?_
  refine N_then ?_
  refine G_seq ?_
  refine G_seq ?_
  refine G_region ?_
  refine W_run 3 [(1, .int .i64 x5477), (5, .slice p5483 ([] : List Int).length c5484), (9, .slice p5474 x5472.length c5475), (10, .int .i64 (x5472.length : Int)), (11, .int .i64 0)] w5486 (by kernel_rfl) ?_
  refine W_nil ?_
  refine N_then ?_
  obtain ⟨out5594, hw5595, hmo5596⟩ := gx_bind hm
  refine G_meet (fun a w' => ∃ (p5603 : Option Addr), ∃ (c5604 : Nat), ∃ (sg5605 : Seg), ownS encI out5594 p5603 c5604 sg5605 ∧ Mem [] w w' [sg5605] ∧ Sat Try.f66.ntmps [(5, .slice p5603 out5594.length c5604)] a) ?_ ?_
  · refine G_block ?_
    refine G_while (σ := List Int × Int) (ρ := List Int) (fun s5587 a w' => ∃ (p5597 : Option Addr), ∃ (c5598 : Nat), ∃ (sg5599 : Seg), ownS encI s5587.1 p5597 c5598 sg5599 ∧ Mem [] w w' [sg5599] ∧ Sat Try.f66.ntmps [(1, .int .i64 x5477), (5, .slice p5597 s5587.1.length c5598), (9, .slice p5474 x5472.length c5475), (10, .int .i64 (x5472.length : Int)), (11, .int .i64 s5587.2)] a) hw5595 (fun a ha => ⟨p5483, c5484, sg5485, ho5487, M5488.pick [0] (by kernel_rfl), ha.sub (by kernel_rfl)⟩) ?_
    clear hm
    intro s5587 x5588 hm hout5589 a5590 w5591 ⟨p5597, c5598, sg5599, ho5600, M5592, hS5593⟩
    refine G_use hS5593 ?_
    refine G_seq ?_
    refine G_region ?_
    refine W_run 1 [(1, .int .i64 x5477), (5, .slice p5597 s5587.1.length c5598), (9, .slice p5474 x5472.length c5475), (10, .int .i64 (x5472.length : Int)), (11, .int .i64 s5587.2), (12, .bool (decide (s5587.2 < (x5472.length : Int))))] w5591 (by kernel_rfl) ?_
    refine W_nil ?_
    refine N_then ?_
    refine G_seq ?_
    rcases gx_bif hm with ⟨hc5608, hm⟩ | ⟨hc5608, hm⟩
    · refine G_cond_t (b := (decide (s5587.2 < (x5472.length : Int)))) hc5608 (by kernel_rfl) ?_
      refine G_skip ?_
      refine N_then ?_
      refine G_seq ?_
      refine G_block ?_
      refine G_seq ?_
      refine G_region ?_
      refine W_run 1 [(1, .int .i64 x5477), (5, .slice p5597 s5587.1.length c5598), (9, .slice p5474 x5472.length c5475), (10, .int .i64 (x5472.length : Int)), (11, .int .i64 s5587.2), (13, .int .i64 s5587.2)] w5591 (by kernel_rfl) ?_
      obtain ⟨y5609, hy5609, hm⟩ := gx_bind hm
      refine W_val (elemP p5474 (s5587.2.toNat * 1)) w5591 (by kernel_rfl) (E_index (E := encI) _ _ _ x5472.length c5475 .i64 s5587.2 1 (y := y5609) rfl (by kernel_rfl) (by kernel_rfl) (by kernel_rfl) (h5476.mem0 M5592) rfl hy5609) ?_
      refine W_val (.int .i64 y5609) w5591 (by kernel_rfl) (E_loadE (E := encI) _ _ false 1 s5587.2 0 (s5587.2.toNat * 1) y5609 (.int .i64 y5609) rfl (by kernel_rfl) (by kernel_rfl) (by kernel_rfl) (h5476.mem0 M5592) hy5609 rfl) ?_
      refine W_run 2 [(1, .int .i64 x5477), (5, .slice p5597 s5587.1.length c5598), (6, .int .i64 s5587.2), (7, .int .i64 y5609), (9, .slice p5474 x5472.length c5475), (10, .int .i64 (x5472.length : Int)), (11, .int .i64 s5587.2)] w5591 (by kernel_rfl) ?_
      refine W_nil ?_
      refine N_then ?_
      refine G_seq ?_
      refine G_region ?_
      refine W_run 3 [(1, .int .i64 x5477), (5, .slice p5597 s5587.1.length c5598), (6, .int .i64 s5587.2), (9, .slice p5474 x5472.length c5475), (10, .int .i64 (x5472.length : Int)), (11, .int .i64 s5587.2), (18, .bool (y5609 == x5477))] w5591 (by kernel_rfl) ?_
      refine W_nil ?_
      refine N_then ?_
      obtain ⟨o5626, ho5627, hm5628⟩ := gx_bind hm
      refine G_meet (fun a w' => ∃ (p5629 : Option Addr), ∃ (c5630 : Nat), ∃ (sg5631 : Seg), ownS encI o5626 p5629 c5630 sg5631 ∧ Mem [] w w' [sg5631] ∧ Sat Try.f66.ntmps [(1, .int .i64 x5477), (5, .slice p5629 o5626.length c5630), (9, .slice p5474 x5472.length c5475), (10, .int .i64 (x5472.length : Int)), (11, .int .i64 s5587.2)] a) ?_ ?_
      · have hm := ho5627
        rcases gx_bif hm with ⟨hc5634, hm⟩ | ⟨hc5634, hm⟩
        · refine G_cond_t (b := (y5609 == x5477)) hc5634 (by kernel_rfl) ?_
          refine G_region ?_
          refine W_run 2 [(1, .int .i64 x5477), (5, .slice p5597 s5587.1.length c5598), (9, .slice p5474 x5472.length c5475), (10, .int .i64 (x5472.length : Int)), (11, .int .i64 s5587.2), (19, .slice p5597 s5587.1.length c5598), (20, .int .i64 s5587.2)] w5591 (by kernel_rfl) ?_
          refine W_lit (E := encI) [s5587.2] 1 [.int .i64 s5587.2] 3 M5592 (by kernel_rfl) (by kernel_rfl) (by kernel_rfl) (by kernel_rfl) (by kernel_rfl) ?_
          intro p5635 c5636 sg5637 w5638 ho5639 M5640
          obtain ⟨ap5642, hap5642, hm⟩ := gx_bind hm
          refine W_append (E := encI) _ _ _ 8 [.int .i64 0] 0 c5636 M5640 ho5600 (by kernel_rfl) (by kernel_rfl) (by kernel_rfl) rfl (by kernel_rfl) (by kernel_rfl) (by kernel_rfl) (by kernel_rfl) (by kernel_rfl) (by kernel_rfl) (ho5639.rd M5640 1 (by kernel_rfl)) hap5642 ?_
          intro p5643 c5644 sg5645 w5646 ho5647 M5648
          refine W_run 1 [(1, .int .i64 x5477), (5, .slice p5643 ap5642.length c5644), (9, .slice p5474 x5472.length c5475), (10, .int .i64 (x5472.length : Int)), (11, .int .i64 s5587.2)] w5646 (by kernel_rfl) ?_
          refine W_nil ?_
          obtain rfl := Option.some.inj hm
          exact N_meet fun a ha => ⟨p5643, c5644, sg5645, ho5647, M5648.pick [0] (by kernel_rfl), ha.sub (by kernel_rfl)⟩
        · refine G_cond_f (b := (y5609 == x5477)) hc5634 (by kernel_rfl) ?_
          refine G_skip ?_
          obtain rfl := Option.some.inj hm
          exact N_meet fun a ha => ⟨p5597, c5598, sg5599, ho5600, M5592.pick [0] (by kernel_rfl), ha.sub (by kernel_rfl)⟩
      · intro a5652 w5650 ⟨p5629, c5630, sg5631, ho5632, M5651, hS5653⟩
        refine N_use hS5653 ?_
        have hm := hm5628
        refine N_block ?_
        refine N_then ?_
        refine G_region ?_
        refine W_run 2 [(1, .int .i64 x5477), (5, .slice p5629 o5626.length c5630), (9, .slice p5474 x5472.length c5475), (10, .int .i64 (x5472.length : Int)), (11, .int .i64 (w64 (s5587.2 + 1)))] w5650 (by kernel_rfl) ?_
        refine W_nil ?_
        obtain rfl := Option.some.inj hm
        exact N_loop fun a ha => ⟨_, rfl, p5629, c5630, sg5631, ho5632, M5651.pick [0] (by kernel_rfl), ha.sub (by kernel_rfl)⟩
    · refine G_cond_f (b := (decide (s5587.2 < (x5472.length : Int)))) hc5608 (by kernel_rfl) ?_
      refine G_exit ?_
      refine N_then_exit ?_
      refine N_then_exit ?_
      refine N_block_eq ?_
      obtain rfl := Option.some.inj hm
      obtain rfl := hout5589 _ rfl
      exact N_meet fun a ha => ⟨p5597, c5598, sg5599, ho5600, M5592.pick [0] (by kernel_rfl), ha.sub (by kernel_rfl)⟩
  · intro a5654 w5655 ⟨p5603, c5604, sg5605, ho5606, M5656, hS5657⟩
    refine N_use hS5657 ?_
    have hm := hmo5596
    refine N_then ?_
    refine G_seq ?_
    refine G_region ?_
    refine W_run 2 [(4, .slice p5603 out5594.length c5604)] w5655 (by kernel_rfl) ?_
    refine W_nil ?_
    refine N_then ?_
    refine G_ret ?_
    obtain rfl := Option.some.inj hm
    refine N_ret [.slice p5603 out5594.length c5604] (RVs_cons (RV_tmp (by kernel_rfl)) RVs_nil) ?_
    exact ⟨p5603, c5604, sg5605, rfl, ho5606, M5656.pick [0] (by kernel_rfl)⟩
theorem c_slices_Max_67 (w : World) (x5962 : List Int) (p5964 : Option Addr) (c5965 : Nat) (h5966 : rdS encI w x5962 p5964 c5965) {r : Int} (hm : M.slices_Max_67 x5962 = some r) :
    Calls Try.prog 67 #[.slice p5964 x5962.length c5965] w fun e w' => e = .returned (.int .i64 r) ∧ Mem [] w w' [] := by
  unfold M.slices_Max_67 at hm
  refine C_enter Try.func67 rfl (by kernel_rfl) ?_
  have M0 := Mem.refl [] w
  refine G_seq ?_
  refine G_region ?_
  refine W_run 1 [(0, .slice p5964 x5962.length c5965)] w (by kernel_rfl) ?_
  refine W_nil ?_
  refine N_then ?_
  refine G_seq ?_
  refine G_seq ?_
  refine G_region ?_
  refine W_run 3 [(0, .slice p5964 x5962.length c5965), (7, .bool (decide ((x5962.length : Int) < 1)))] w (by kernel_rfl) ?_
  refine W_nil ?_
  refine N_then ?_
  rcases gx_bif hm with ⟨hc5967, hm⟩ | ⟨hc5967, hm⟩
  · refine G_cond_t (b := (decide ((x5962.length : Int) < 1))) hc5967 (by kernel_rfl) ?_
    cases hm
  · refine G_cond_f (b := (decide ((x5962.length : Int) < 1))) hc5967 (by kernel_rfl) ?_
    refine G_skip ?_
    refine N_then ?_
    refine G_seq ?_
    refine G_region ?_
    refine W_run 1 [(0, .slice p5964 x5962.length c5965), (9, .slice p5964 x5962.length c5965)] w (by kernel_rfl) ?_
    obtain ⟨y5968, hy5968, hm⟩ := gx_bind hm
    refine W_val (elemP p5964 ((0 : Int).toNat * 1)) w (by kernel_rfl) (E_index (E := encI) _ _ _ x5962.length c5965 .i64 0 1 (y := y5968) rfl (by kernel_rfl) (by kernel_rfl) (by kernel_rfl) (h5966.mem0 M0) rfl hy5968) ?_
    refine W_val (.int .i64 y5968) w (by kernel_rfl) (E_loadE (E := encI) _ _ false 1 0 0 ((0 : Int).toNat * 1) y5968 (.int .i64 y5968) rfl (by kernel_rfl) (by kernel_rfl) (by kernel_rfl) (h5966.mem0 M0) hy5968 rfl) ?_
    refine W_run 1 [(0, .slice p5964 x5962.length c5965), (3, .int .i64 y5968)] w (by kernel_rfl) ?_
    refine W_nil ?_
    refine N_then ?_
    refine G_seq ?_
    refine G_seq ?_
    refine G_region ?_
    refine W_run 1 [(0, .slice p5964 x5962.length c5965), (3, .int .i64 y5968), (4, .int .i64 1)] w (by kernel_rfl) ?_
    refine W_nil ?_
    refine N_then ?_
    obtain ⟨out5980, hw5981, hmo5982⟩ := gx_bind hm
    refine G_meet (fun a w' => Mem [] w w' [] ∧ Sat Try.f67.ntmps [(3, .int .i64 out5980)] a) ?_ ?_
    · refine G_block ?_
      refine G_while (σ := Int × Int) (ρ := Int) (fun s5973 a w' => Mem [] w w' [] ∧ Sat Try.f67.ntmps [(0, .slice p5964 x5962.length c5965), (3, .int .i64 s5973.1), (4, .int .i64 s5973.2)] a) hw5981 (fun a ha => ⟨M0.pick [] (by kernel_rfl), ha.sub (by kernel_rfl)⟩) ?_
      clear hm
      intro s5973 x5974 hm hout5975 a5976 w5977 ⟨M5978, hS5979⟩
      refine G_use hS5979 ?_
      refine G_seq ?_
      refine G_seq ?_
      refine G_region ?_
      refine W_run 4 [(0, .slice p5964 x5962.length c5965), (3, .int .i64 s5973.1), (4, .int .i64 s5973.2), (15, .bool (decide (s5973.2 < (x5962.length : Int))))] w5977 (by kernel_rfl) ?_
      refine W_nil ?_
      refine N_then ?_
      rcases gx_bif hm with ⟨hc5984, hm⟩ | ⟨hc5984, hm⟩
      · refine G_cond_t (b := (decide (s5973.2 < (x5962.length : Int)))) hc5984 (by kernel_rfl) ?_
        refine G_skip ?_
        refine N_then ?_
        refine G_seq ?_
        refine G_block ?_
        refine G_region ?_
        refine W_run 3 [(0, .slice p5964 x5962.length c5965), (3, .int .i64 s5973.1), (4, .int .i64 s5973.2), (18, .int .i64 s5973.1), (19, .slice p5964 x5962.length c5965), (20, .int .i64 s5973.2)] w5977 (by kernel_rfl) ?_
        obtain ⟨y5985, hy5985, hm⟩ := gx_bind hm
        refine W_val (elemP p5964 (s5973.2.toNat * 1)) w5977 (by kernel_rfl) (E_index (E := encI) _ _ _ x5962.length c5965 .i64 s5973.2 1 (y := y5985) rfl (by kernel_rfl) (by kernel_rfl) (by kernel_rfl) (h5966.mem0 M5978) rfl hy5985) ?_
        refine W_val (.int .i64 y5985) w5977 (by kernel_rfl) (E_loadE (E := encI) _ _ false 1 s5973.2 0 (s5973.2.toNat * 1) y5985 (.int .i64 y5985) rfl (by kernel_rfl) (by kernel_rfl) (by kernel_rfl) (h5966.mem0 M5978) hy5985 rfl) ?_
        refine W_run 2 [(0, .slice p5964 x5962.length c5965), (3, .int .i64 (gxMax s5973.1 y5985)), (4, .int .i64 s5973.2)] w5977 (by kernel_rfl) ?_
        refine W_nil ?_
        refine N_block ?_
        refine N_then ?_
        refine G_region ?_
        refine W_run 3 [(0, .slice p5964 x5962.length c5965), (3, .int .i64 (gxMax s5973.1 y5985)), (4, .int .i64 (w64 (s5973.2 + 1)))] w5977 (by kernel_rfl) ?_
        refine W_nil ?_
        obtain rfl := Option.some.inj hm
        exact N_loop fun a ha => ⟨_, rfl, M5978.pick [] (by kernel_rfl), ha.sub (by kernel_rfl)⟩
      · refine G_cond_f (b := (decide (s5973.2 < (x5962.length : Int)))) hc5984 (by kernel_rfl) ?_
        refine G_exit ?_
        refine N_then_exit ?_
        refine N_then_exit ?_
        refine N_block_eq ?_
        obtain rfl := Option.some.inj hm
        obtain rfl := hout5975 _ rfl
        exact N_meet fun a ha => ⟨M5978.pick [] (by kernel_rfl), ha.sub (by kernel_rfl)⟩
    · intro a5986 w5987 ⟨M5988, hS5989⟩
      refine N_use hS5989 ?_
      have hm := hmo5982
      refine N_then ?_
      refine G_seq ?_
      refine G_region ?_
      refine W_run 2 [(2, .int .i64 out5980)] w5987 (by kernel_rfl) ?_
      refine W_nil ?_
      refine N_then ?_
      refine G_ret ?_
      obtain rfl := Option.some.inj hm
      refine N_ret [.int .i64 out5980] (RVs_cons (RV_tmp (by kernel_rfl)) RVs_nil) ?_
      exact ⟨rfl, M5988.pick [] (by kernel_rfl)⟩
theorem c_i_ShareGoals (w : World) (x5380 : List Int) (p5382 : Option Addr) (c5383 : Nat) (h5384 : rdS encI w x5380 p5382 c5383) (x5385 : List Balloon) (p5387 : Option Addr) (c5388 : Nat) (h5389 : rdD deepBalloon w x5385 p5387 c5388) (x5390 : Int) {r : (List Balloon) × Bool} (hm : M.i_ShareGoals x5380 x5385 x5390 = some r) :
    Calls Try.prog 31 #[.slice p5382 x5380.length c5383, .slice p5387 x5385.length c5388, .int .i64 x5390] w fun e w' => ∃ (p5392 : Option Addr) (c5393 : Nat) (sg5394 : Seg) (sg5395 : Seg), e = .returned (.tuple #[.slice p5392 r.1.length c5393, .bool r.2]) ∧ ownD deepBalloon r.1 p5392 c5393 sg5394 sg5395 ∧ Mem [] w w' [sg5394, sg5395] := by
  unfold M.i_ShareGoals at hm
  refine C_enter Try.func31 rfl (by kernel_rfl) ?_
  have M0 := Mem.refl [] w
  refine G_seq ?_
  refine G_region ?_
  refine W_run 2 [(0, .slice p5382 x5380.length c5383), (1, .slice p5387 x5385.length c5388), (2, .int .i64 x5390)] w (by kernel_rfl) ?_
  refine W_nil ?_
  refine N_then ?_
  refine G_seq ?_
  refine G_seq ?_
  obtain ⟨o5406, ho5407, hm5408⟩ := gx_bind hm
  refine G_meet (fun a w' => Mem [] w w' [] ∧ Sat Try.f31.ntmps [(0, .slice p5382 x5380.length c5383), (1, .slice p5387 x5385.length c5388), (2, .int .i64 x5390), (21, .bool o5406)] a) ?_ ?_
  · have hm := ho5407
    refine G_region ?_
    refine W_run 2 [(0, .slice p5382 x5380.length c5383), (1, .slice p5387 x5385.length c5388), (2, .int .i64 x5390), (13, .slice p5382 x5380.length c5383), (14, .slice p5387 x5385.length c5388)] w (by kernel_rfl) ?_
    obtain ⟨r5409, hr5409, hm⟩ := gx_bind hm
    refine W_call 17 #[.slice p5382 x5380.length c5383, .slice p5387 x5385.length c5388] (by kernel_rfl) (by kernel_rfl) ?_
    refine (c_i_AreBalloons w x5380 p5382 c5383 (h5384.mem0 M0) x5385 p5387 c5388 (h5389.mem0 M0) hr5409).mono ?_
    rintro e_ w5410 ⟨rfl, K5411⟩
    have M5412 := M0.call0 K5411
    refine ⟨_, rfl, ?_⟩
    refine W_run 2 [(0, .slice p5382 x5380.length c5383), (1, .slice p5387 x5385.length c5388), (2, .int .i64 x5390), (17, .bool (!r5409))] w5410 (by kernel_rfl) ?_
    rcases gx_bif hm with ⟨hc5413, hm⟩ | ⟨hc5413, hm⟩
    · refine W_known 17 true (by kernel_rfl) hc5413 ?_
      refine W_run 4 [(0, .slice p5382 x5380.length c5383), (1, .slice p5387 x5385.length c5388), (2, .int .i64 x5390), (21, .bool true)] w5410 (by kernel_rfl) ?_
      refine W_nil ?_
      obtain rfl := Option.some.inj hm
      exact N_meet fun a ha => ⟨M5412.pick [] (by kernel_rfl), ha.sub (by kernel_rfl)⟩
    · refine W_known 17 false (by kernel_rfl) hc5413 ?_
      refine W_run 1 [(0, .slice p5382 x5380.length c5383), (1, .slice p5387 x5385.length c5388), (2, .int .i64 x5390), (17, .bool false), (18, .int .i64 x5390)] w5410 (by kernel_rfl) ?_
      obtain ⟨r5414, hr5414, hm⟩ := gx_bind hm
      refine W_call 51 #[.int .i64 x5390] (by kernel_rfl) (by kernel_rfl) ?_
      refine (c_i_isGoal w5410 x5390 hr5414).mono ?_
      rintro e_ w5415 ⟨rfl, K5416⟩
      have M5417 := M5412.call0 K5416
      refine ⟨_, rfl, ?_⟩
      refine W_run 2 [(0, .slice p5382 x5380.length c5383), (1, .slice p5387 x5385.length c5388), (2, .int .i64 x5390), (21, .bool (!r5414))] w5415 (by kernel_rfl) ?_
      refine W_nil ?_
      obtain rfl := Option.some.inj hm
      exact N_meet fun a ha => ⟨M5417.pick [] (by kernel_rfl), ha.sub (by kernel_rfl)⟩
  · intro a5420 w5418 ⟨M5419, hS5421⟩
    refine N_use hS5421 ?_
    have hm := hm5408
    refine N_then ?_
    rcases gx_bif hm with ⟨hc5422, hm⟩ | ⟨hc5422, hm⟩
    · refine G_cond_t (b := o5406) hc5422 (by kernel_rfl) ?_
      refine G_seq ?_
      refine G_region ?_
      refine W_run 2 [(6, .slice none 0 0), (7, .bool false)] w5418 (by kernel_rfl) ?_
      refine W_nil ?_
      refine N_then ?_
      refine G_ret ?_
      refine N_then_ret ?_
      obtain rfl := Option.some.inj hm
      refine N_ret [.slice none 0 0, .bool false] (RVs_cons (RV_tmp (by kernel_rfl)) (RVs_cons (RV_tmp (by kernel_rfl)) RVs_nil)) ?_
      exact ⟨none, 0, [], [], rfl, ownD_nil, M5419.pick [100000, 100001] (by kernel_rfl)⟩
    · refine G_cond_f (b := o5406) hc5422 (by kernel_rfl) ?_
      refine G_skip ?_
      refine N_then ?_
      refine G_seq ?_
      refine G_region ?_
      refine W_run 1 [(0, .slice p5382 x5380.length c5383), (1, .slice p5387 x5385.length c5388), (2, .int .i64 x5390), (22, .slice p5387 x5385.length c5388)] w5418 (by kernel_rfl) ?_
      obtain ⟨r5424, hr5424, hm⟩ := gx_bind hm
      refine W_call 60 #[.slice p5387 x5385.length c5388] (by kernel_rfl) (by kernel_rfl) ?_
      refine (c_i_newBalloons w5418 x5385 p5387 c5388 (h5389.mem0 M5419) hr5424).mono ?_
      rintro e_ w5431 ⟨p5426, c5427, sg5428, sg5429, rfl, ho5430, K5432⟩
      have M5433 := M5419.call K5432
      refine ⟨_, rfl, ?_⟩
      refine W_lit (E := encI) ([] : List Int) 0 [] 3 M5433 (by kernel_rfl) (by kernel_rfl) (by kernel_rfl) (by kernel_rfl) (by kernel_rfl) ?_
      intro p5434 c5435 sg5436 w5437 ho5438 M5439
      refine W_run 2 [(0, .slice p5382 x5380.length c5383), (1, .slice p5387 x5385.length c5388), (2, .int .i64 x5390), (8, .slice p5426 r5424.length c5427), (9, .slice p5434 ([] : List Int).length c5435)] w5437 (by kernel_rfl) ?_
      refine W_nil ?_
      refine N_then ?_
      refine G_seq ?_
      refine G_seq ?_
      refine G_region ?_
      refine W_run 3 [(0, .slice p5382 x5380.length c5383), (2, .int .i64 x5390), (8, .slice p5426 r5424.length c5427), (9, .slice p5434 ([] : List Int).length c5435), (25, .slice p5387 x5385.length c5388), (26, .int .i64 (x5385.length : Int)), (27, .int .i64 0)] w5437 (by kernel_rfl) ?_
      refine W_nil ?_
      refine N_then ?_
      obtain ⟨out5838, hw5839, hmo5840⟩ := gx_bind hm
      refine G_meet (fun a w' => ∃ (p5850 : Option Addr), ∃ (c5851 : Nat), ∃ (sg5852 : Seg), ∃ (sg5855 : Seg), ∃ (sg5856 : Seg), ownS encI out5838.1 p5850 c5851 sg5852 ∧ ownD deepBalloon out5838.2 p5426 c5427 sg5855 sg5856 ∧ Mem [] w w' [sg5852, sg5855, sg5856] ∧ Sat Try.f31.ntmps [(2, .int .i64 x5390), (8, .slice p5426 out5838.2.length c5427), (9, .slice p5850 out5838.1.length c5851)] a) ?_ ?_
      · refine G_block ?_
        refine G_while (σ := List Int × Int × List Balloon) (ρ := List Int × List Balloon) (fun s5831 a w' => ∃ (p5841 : Option Addr), ∃ (c5842 : Nat), ∃ (sg5843 : Seg), ∃ (sg5846 : Seg), ∃ (sg5847 : Seg), ownS encI s5831.1 p5841 c5842 sg5843 ∧ ownD deepBalloon s5831.2.2 p5426 c5427 sg5846 sg5847 ∧ Mem [] w w' [sg5843, sg5846, sg5847] ∧ Sat Try.f31.ntmps [(0, .slice p5382 x5380.length c5383), (2, .int .i64 x5390), (8, .slice p5426 s5831.2.2.length c5427), (9, .slice p5841 s5831.1.length c5842), (25, .slice p5387 x5385.length c5388), (26, .int .i64 (x5385.length : Int)), (27, .int .i64 s5831.2.1)] a) hw5839 (fun a ha => ⟨p5434, c5435, sg5436, sg5428, sg5429, ho5438, ho5430, M5439.pick [2, 0, 1] (by kernel_rfl), ha.sub (by kernel_rfl)⟩) ?_
        clear hm
        intro s5831 x5832 hm hout5833 a5834 w5835 ⟨p5841, c5842, sg5843, sg5846, sg5847, ho5844, ho5848, M5836, hS5837⟩
        refine G_use hS5837 ?_
        refine G_seq ?_
        refine G_region ?_
        refine W_run 1 [(0, .slice p5382 x5380.length c5383), (2, .int .i64 x5390), (8, .slice p5426 s5831.2.2.length c5427), (9, .slice p5841 s5831.1.length c5842), (25, .slice p5387 x5385.length c5388), (26, .int .i64 (x5385.length : Int)), (27, .int .i64 s5831.2.1), (28, .bool (decide (s5831.2.1 < (x5385.length : Int))))] w5835 (by kernel_rfl) ?_
        refine W_nil ?_
        refine N_then ?_
        refine G_seq ?_
        rcases gx_bif hm with ⟨hc5858, hm⟩ | ⟨hc5858, hm⟩
        · refine G_cond_t (b := (decide (s5831.2.1 < (x5385.length : Int)))) hc5858 (by kernel_rfl) ?_
          refine G_skip ?_
          refine N_then ?_
          refine G_seq ?_
          refine G_block ?_
          refine G_seq ?_
          refine G_region ?_
          refine W_run 1 [(0, .slice p5382 x5380.length c5383), (2, .int .i64 x5390), (8, .slice p5426 s5831.2.2.length c5427), (9, .slice p5841 s5831.1.length c5842), (25, .slice p5387 x5385.length c5388), (26, .int .i64 (x5385.length : Int)), (27, .int .i64 s5831.2.1), (29, .int .i64 s5831.2.1)] w5835 (by kernel_rfl) ?_
          obtain ⟨y5859, hy5859, hm⟩ := gx_bind hm
          obtain ⟨zs5860, hz5861, hr5862, hi5863⟩ := id h5389
          obtain ⟨g5864, hg5865⟩ := gxIdx_fst hz5861 hy5859
          refine W_val (elemP p5387 (s5831.2.1.toNat * 3)) w5835 (by kernel_rfl) (E_index (E := deepBalloon.E) _ _ _ x5385.length c5388 .i64 s5831.2.1 3 (y := (y5859, g5864)) rfl (by kernel_rfl) (by kernel_rfl) (by kernel_rfl) (hr5862.mem0 M5836) (len_fst hz5861) hg5865) ?_
          refine W_val (.agg #[.int .i64 y5859.Guest, .int .i64 y5859.Goal, .slice ((g5864 0).1) y5859.Gave.length ((g5864 0).2)]) w5835 (by kernel_rfl) (E_loadE (E := deepBalloon.E) _ _ true 3 s5831.2.1 0 (s5831.2.1.toNat * 3) (y5859, g5864) (.agg #[.int .i64 y5859.Guest, .int .i64 y5859.Goal, .slice ((g5864 0).1) y5859.Gave.length ((g5864 0).2)]) rfl (by kernel_rfl) (by kernel_rfl) (by kernel_rfl) (hr5862.mem0 M5836) hg5865 rfl) ?_
          refine W_new (fun b => .pointer (some ⟨b, 0, none⟩)) (.cells ⟨[.int .i64 0, .int .i64 0, .slice none 0 0]⟩ 50 (0, 0)) M5836 rfl (by kernel_rfl) (by kernel_rfl) ?_
          intro b5869 w5870 M5871
          refine W_run 1 [(0, .slice p5382 x5380.length c5383), (2, .int .i64 x5390), (8, .slice p5426 s5831.2.2.length c5427), (9, .slice p5841 s5831.1.length c5842), (10, .int .i64 s5831.2.1), (11, .pointer (some ⟨b5869, 0, none⟩)), (25, .slice p5387 x5385.length c5388), (26, .int .i64 (x5385.length : Int)), (27, .int .i64 s5831.2.1), (31, .agg #[.int .i64 y5859.Guest, .int .i64 y5859.Goal, .slice ((g5864 0).1) y5859.Gave.length ((g5864 0).2)])] w5870 (by kernel_rfl) ?_
          refine W_store _ _ _ true 3 b5869 0 [.int .i64 0, .int .i64 0, .slice none 0 0] 50 (.agg #[.int .i64 y5859.Guest, .int .i64 y5859.Goal, .slice ((g5864 0).1) y5859.Gave.length ((g5864 0).2)]) 3 [.int .i64 y5859.Guest, .int .i64 y5859.Goal, .slice ((g5864 0).1) y5859.Gave.length ((g5864 0).2)] M5871 (by kernel_rfl) rfl (by kernel_rfl) (by kernel_rfl) (by kernel_rfl) (by kernel_rfl) (by kernel_rfl) (by kernel_rfl) (by kernel_rfl) (by kernel_rfl) ?_
          intro w5872 M5873
          refine W_nil ?_
          refine N_then ?_
          refine G_seq ?_
          refine G_region ?_
          refine W_run 2 [(0, .slice p5382 x5380.length c5383), (2, .int .i64 x5390), (8, .slice p5426 s5831.2.2.length c5427), (9, .slice p5841 s5831.1.length c5842), (11, .pointer (some ⟨b5869, 0, none⟩)), (25, .slice p5387 x5385.length c5388), (26, .int .i64 (x5385.length : Int)), (27, .int .i64 s5831.2.1), (32, .slice p5426 s5831.2.2.length c5427), (33, .int .i64 s5831.2.1)] w5872 (by kernel_rfl) ?_
          obtain ⟨y5874, hy5874, hm⟩ := gx_bind hm
          obtain ⟨zs5875, hz5876, hr5877, hi5878⟩ := id ho5848
          obtain ⟨g5879, hg5880⟩ := gxIdx_fst hz5876 hy5874
          refine W_val (elemP p5426 (s5831.2.1.toNat * 3)) w5872 (by kernel_rfl) (E_index (E := deepBalloon.E) _ _ _ s5831.2.2.length c5427 .i64 s5831.2.1 3 (y := (y5874, g5879)) rfl (by kernel_rfl) (by kernel_rfl) (by kernel_rfl) (hr5877.rd M5873 1 (by kernel_rfl)) (len_fst hz5876) hg5880) ?_
          refine W_val (elemP p5426 (s5831.2.1.toNat * 3 + 1)) w5872 (by kernel_rfl) (E_fieldE (E := deepBalloon.E) _ _ 1 (s5831.2.1.toNat * 3) 1 rfl (by kernel_rfl) (by kernel_rfl) (hr5877.rd M5873 1 (by kernel_rfl)) hg5880) ?_
          refine W_storeE (E := deepBalloon.E) _ _ _ false 1 s5831.2.1.toNat 1 (s5831.2.1.toNat * 3 + 1) (y5874, g5879) ((⟨y5874.Guest, 0, y5874.Gave⟩ : Balloon), g5879) (.int .i64 0) 1 M5873 hr5877 (by kernel_rfl) (by kernel_rfl) rfl (by kernel_rfl) (by kernel_rfl) (by kernel_rfl) (by kernel_rfl) (by kernel_rfl) (by kernel_rfl) (by kernel_rfl) (gxIdx_spec hg5880).2 rfl ?_
          intro w5882 sg5884 ho5885 M5883
          have ho5886 : ownD deepBalloon (s5831.2.2.set s5831.2.1.toNat (⟨y5874.Guest, 0, y5874.Gave⟩ : Balloon)) p5426 c5427 sg5884 sg5847 := ⟨_, set_fst hz5876 s5831.2.1.toNat ((⟨y5874.Guest, 0, y5874.Gave⟩ : Balloon), g5879), ho5885, (by rw [flatMap_setSame (gxIdx_spec hg5880).2 (by kernel_rfl)]; exact hi5878)⟩
          refine W_conv 8 (.slice p5426 s5831.2.2.length c5427) (.slice p5426 (s5831.2.2.set s5831.2.1.toNat (⟨y5874.Guest, 0, y5874.Gave⟩ : Balloon)).length c5427) (by kernel_rfl) (by rw [@List.length_set _ s5831.2.2 s5831.2.1.toNat (⟨y5874.Guest, 0, y5874.Gave⟩ : Balloon)]) ?_
          refine W_conv 32 (.slice p5426 s5831.2.2.length c5427) (.slice p5426 (s5831.2.2.set s5831.2.1.toNat (⟨y5874.Guest, 0, y5874.Gave⟩ : Balloon)).length c5427) (by kernel_rfl) (by rw [@List.length_set _ s5831.2.2 s5831.2.1.toNat (⟨y5874.Guest, 0, y5874.Gave⟩ : Balloon)]) ?_
          refine W_nil ?_
          refine N_then ?_
          obtain ⟨r5889, hr5889, hm⟩ := gx_bind hm
          refine G_sub [(0, .slice p5382 x5380.length c5383), (2, .int .i64 x5390), (8, .slice p5426 (s5831.2.2.set s5831.2.1.toNat (⟨y5874.Guest, 0, y5874.Gave⟩ : Balloon)).length c5427), (9, .slice p5841 s5831.1.length c5842), (11, .pointer (some ⟨b5869, 0, none⟩)), (25, .slice p5387 x5385.length c5388), (26, .int .i64 (x5385.length : Int)), (27, .int .i64 s5831.2.1), (32, .slice p5426 (s5831.2.2.set s5831.2.1.toNat (⟨y5874.Guest, 0, y5874.Gave⟩ : Balloon)).length c5427), (33, .int .i64 s5831.2.1), (34, elemP p5426 (s5831.2.1.toNat * 3)), (35, elemP p5426 (s5831.2.1.toNat * 3 + 1))] (by kernel_rfl) ?_
          refine G_dagL 11 [[], [], [], [2], [1, 3], [], [], [6], [7], [5, 8], [9]] [[], [], [], [], [], [], [], [], [], [], []] [[], [], [], [], [], [], [], [], [], [], []] [[], [], [], [], [], [4], [], [], [], [], []] [[], [], [], [], [], [], [], [], [], [], []] [[], [], [], [], [], [], [], [], [], [], []] (fun _ => []) (fun i => ([fun f v s => v = (.slice p5841 s5831.1.length c5842 : Value) ∧ s = [], fun f v s => v = (.slice p5382 x5380.length c5383 : Value) ∧ s = [], fun f v s => v = (.pointer (some ⟨b5869, 0, none⟩) : Value) ∧ s = [], fun f v s => v = (.int .i64 y5859.Guest : Value) ∧ s = [], fun f v s => ∃ (p5891 : Option Addr) (c5892 : Nat), v = (.slice p5891 r5889.length c5892 : Value) ∧ ownS encI r5889 p5891 c5892 s, fun f v s => v = (.int .i64 (r5889.length : Int) : Value) ∧ s = [], fun f v s => v = (.pointer (some ⟨b5869, 2, none⟩) : Value) ∧ s = [], fun f v s => v = (.slice ((g5864 0).1) y5859.Gave.length ((g5864 0).2) : Value) ∧ s = [], fun f v s => v = (.int .i64 (y5859.Gave.length : Int) : Value) ∧ s = [], fun f v s => v = (.int .i64 (w64 ((r5889.length : Int) + (y5859.Gave.length : Int))) : Value) ∧ s = [], fun f v s => ∃ (p5896 : Option Addr) (c5897 : Nat), v = (.slice p5896 [w64 ((r5889.length : Int) + (y5859.Gave.length : Int))].length c5897 : Value) ∧ ownS encI [w64 ((r5889.length : Int) + (y5859.Gave.length : Int))] p5896 c5897 s] : List ((Nat → Value) → Value → Seg → Prop)).getD i (fun _ _ _ => False)) (fun j f v => ∃ s, (fun i => ([fun f v s => v = (.slice p5841 s5831.1.length c5842 : Value) ∧ s = [], fun f v s => v = (.slice p5382 x5380.length c5383 : Value) ∧ s = [], fun f v s => v = (.pointer (some ⟨b5869, 0, none⟩) : Value) ∧ s = [], fun f v s => v = (.int .i64 y5859.Guest : Value) ∧ s = [], fun f v s => ∃ (p5891 : Option Addr) (c5892 : Nat), v = (.slice p5891 r5889.length c5892 : Value) ∧ ownS encI r5889 p5891 c5892 s, fun f v s => v = (.int .i64 (r5889.length : Int) : Value) ∧ s = [], fun f v s => v = (.pointer (some ⟨b5869, 2, none⟩) : Value) ∧ s = [], fun f v s => v = (.slice ((g5864 0).1) y5859.Gave.length ((g5864 0).2) : Value) ∧ s = [], fun f v s => v = (.int .i64 (y5859.Gave.length : Int) : Value) ∧ s = [], fun f v s => v = (.int .i64 (w64 ((r5889.length : Int) + (y5859.Gave.length : Int))) : Value) ∧ s = [], fun f v s => ∃ (p5896 : Option Addr) (c5897 : Nat), v = (.slice p5896 [w64 ((r5889.length : Int) + (y5859.Gave.length : Int))].length c5897 : Value) ∧ ownS encI [w64 ((r5889.length : Int) + (y5859.Gave.length : Int))] p5896 c5897 s] : List ((Nat → Value) → Value → Seg → Prop)).getD i (fun _ _ _ => False)) j f v s) [] [0, 4, 10] [4, 10] (fun _ _ _ s h => ⟨s, h⟩) (by kernel_rfl) (by kernel_rfl) (M5883.preNil 11) (by kernel_rfl) (by kernel_rfl) (by kernel_rfl) (by kernel_rfl) (allOb_cons ?_ (allOb_cons ?_ (allOb_cons ?_ (allOb_cons ?_ (allOb_cons ?_ (allOb_cons ?_ (allOb_cons ?_ (allOb_cons ?_ (allOb_cons ?_ (allOb_cons ?_ (allOb_cons ?_ allOb_nil))))))))))) ?_
          · intro g5887 f5888
            intro R w5900 M5901
            refine W_run 1 [(36, .slice p5841 s5831.1.length c5842)] w5900 (by kernel_rfl) ?_
            exact W_nil (ob_end (.slice p5841 s5831.1.length c5842) [] rfl (by kernel_rfl) ⟨by kernel_rfl, rfl⟩ M5901)
          · intro g5887 f5888
            intro R w5904 M5905
            refine W_run 1 [(37, .slice p5382 x5380.length c5383)] w5904 (by kernel_rfl) ?_
            exact W_nil (ob_end (.slice p5382 x5380.length c5383) [] rfl (by kernel_rfl) ⟨by kernel_rfl, rfl⟩ M5905)
          · intro g5887 f5888
            intro R w5908 M5909
            refine W_run 1 [(38, .pointer (some ⟨b5869, 0, none⟩))] w5908 (by kernel_rfl) ?_
            exact W_nil (ob_end (.pointer (some ⟨b5869, 0, none⟩)) [] rfl (by kernel_rfl) ⟨by kernel_rfl, rfl⟩ M5909)
          · intro g5887 f5888
            intro v2_ hb2_
            obtain ⟨rfl, _⟩ := hb2_
            intro R w5912 M5913
            refine W_val (.int .i64 y5859.Guest) w5912 (by kernel_rfl) (E_load (e := 50) (fr := (0, 0)) _ _ false 1 b5869 0 [.int .i64 y5859.Guest, .int .i64 y5859.Goal, .slice ((g5864 0).1) y5859.Gave.length ((g5864 0).2)] (.int .i64 y5859.Guest) rfl (by kernel_rfl) (by kernel_rfl) (by kernel_rfl) (M5913.blk 3 (b := b5869) (o := .cells ⟨[.int .i64 y5859.Guest, .int .i64 y5859.Goal, .slice ((g5864 0).1) y5859.Gave.length ((g5864 0).2)]⟩ 50 (0, 0)) (by kernel_rfl))) ?_
            exact W_nil (ob_end (.int .i64 y5859.Guest) [] rfl (by kernel_rfl) ⟨by kernel_rfl, rfl⟩ M5913)
          · intro g5887 f5888
            intro v1_ hb1_
            obtain ⟨rfl, _⟩ := hb1_
            intro v3_ hb3_
            obtain ⟨rfl, _⟩ := hb3_
            intro R w5916 M5917
            refine W_call 66 #[.slice p5382 x5380.length c5383, .int .i64 y5859.Guest] (by kernel_rfl) (by kernel_rfl) ?_
            refine (c_i_framesOf w5916 x5380 p5382 c5383 (h5384.mem0 M5917) y5859.Guest hr5889).mono ?_
            rintro e_ w5918 ⟨p5891, c5892, sg5893, rfl, ho5894, K5920⟩
            refine ⟨_, rfl, ?_⟩
            exact W_nil (ob_end (.slice p5891 r5889.length c5892) sg5893 rfl (by kernel_rfl) ⟨p5891, c5892, rfl, ho5894⟩ (Mem.callMid M5917 K5920))
          · intro g5887 f5888
            intro v4_ hb4_
            obtain ⟨_, p5891, c5892, rfl, _⟩ := hb4_
            intro R w5921 M5922
            refine W_run 1 [(41, .int .i64 (r5889.length : Int))] w5921 (by kernel_rfl) ?_
            exact W_nil (ob_end (.int .i64 (r5889.length : Int)) [] rfl (by kernel_rfl) ⟨by kernel_rfl, rfl⟩ M5922)
          · intro g5887 f5888
            intro R w5925 M5926
            refine W_run 1 [(42, .pointer (some ⟨b5869, 2, none⟩))] w5925 (by kernel_rfl) ?_
            exact W_nil (ob_end (.pointer (some ⟨b5869, 2, none⟩)) [] rfl (by kernel_rfl) ⟨by kernel_rfl, rfl⟩ M5926)
          · intro g5887 f5888
            intro v6_ hb6_
            obtain ⟨rfl, _⟩ := hb6_
            intro R w5929 M5930
            refine W_val (.slice ((g5864 0).1) y5859.Gave.length ((g5864 0).2)) w5929 (by kernel_rfl) (E_load (e := 50) (fr := (0, 0)) _ _ false 1 b5869 2 [.int .i64 y5859.Guest, .int .i64 y5859.Goal, .slice ((g5864 0).1) y5859.Gave.length ((g5864 0).2)] (.slice ((g5864 0).1) y5859.Gave.length ((g5864 0).2)) rfl (by kernel_rfl) (by kernel_rfl) (by kernel_rfl) (M5930.blk 3 (b := b5869) (o := .cells ⟨[.int .i64 y5859.Guest, .int .i64 y5859.Goal, .slice ((g5864 0).1) y5859.Gave.length ((g5864 0).2)]⟩ 50 (0, 0)) (by kernel_rfl))) ?_
            exact W_nil (ob_end (.slice ((g5864 0).1) y5859.Gave.length ((g5864 0).2)) [] rfl (by kernel_rfl) ⟨by kernel_rfl, rfl⟩ M5930)
          · intro g5887 f5888
            intro v7_ hb7_
            obtain ⟨rfl, _⟩ := hb7_
            intro R w5933 M5934
            refine W_run 1 [(44, .int .i64 (y5859.Gave.length : Int))] w5933 (by kernel_rfl) ?_
            exact W_nil (ob_end (.int .i64 (y5859.Gave.length : Int)) [] rfl (by kernel_rfl) ⟨by kernel_rfl, rfl⟩ M5934)
          · intro g5887 f5888
            intro v5_ hb5_
            obtain ⟨rfl, _⟩ := hb5_
            intro v8_ hb8_
            obtain ⟨rfl, _⟩ := hb8_
            intro R w5937 M5938
            refine W_run 1 [(45, .int .i64 (w64 ((r5889.length : Int) + (y5859.Gave.length : Int))))] w5937 (by kernel_rfl) ?_
            exact W_nil (ob_end (.int .i64 (w64 ((r5889.length : Int) + (y5859.Gave.length : Int)))) [] rfl (by kernel_rfl) ⟨by kernel_rfl, rfl⟩ M5938)
          · intro g5887 f5888
            intro v9_ hb9_
            obtain ⟨rfl, _⟩ := hb9_
            intro R w5941 M5942
            refine W_lit (E := encI) [w64 ((r5889.length : Int) + (y5859.Gave.length : Int))] 1 [.int .i64 (w64 ((r5889.length : Int) + (y5859.Gave.length : Int)))] 3 M5942 (by kernel_rfl) (by kernel_rfl) (by kernel_rfl) (by kernel_rfl) (by kernel_rfl) ?_
            intro p5896 c5897 sg5898 w5943 ho5899 M5944
            exact W_nil (ob_end (.slice p5896 [w64 ((r5889.length : Int) + (y5859.Gave.length : Int))].length c5897) sg5898 rfl (by kernel_rfl) ⟨p5896, c5897, rfl, ho5899⟩ (Mem.mid M5944))
          · intro g5887 f5888
            intro v0_ hb0_
            obtain ⟨rfl, _⟩ := hb0_
            intro v4_ hb4_
            obtain ⟨p5891, c5892, rfl, ho5894⟩ := hb4_
            intro v10_ hb10_
            obtain ⟨p5896, c5897, rfl, ho5899⟩ := hb10_
            intro w5945 M5946
            have M5947 : Mem [] w w5945 [sg5843, sg5884, sg5847, [(b5869, .cells ⟨[.int .i64 y5859.Guest, .int .i64 y5859.Goal, .slice ((g5864 0).1) y5859.Gave.length ((g5864 0).2)]⟩ 50 (0, 0))], (g5887 4), (g5887 10)] := M5946
            obtain ⟨ap5948, hap5948, hm⟩ := gx_bind hm
            refine W_append (E := encI) _ _ _ 8 [.int .i64 0] 0 c5897 M5947 ho5844 (by kernel_rfl) (by kernel_rfl) (by kernel_rfl) rfl (by kernel_rfl) (by kernel_rfl) (by kernel_rfl) (by kernel_rfl) (by kernel_rfl) (by kernel_rfl) (ho5899.rd M5947 5 (by kernel_rfl)) hap5948 ?_
            intro p5949 c5950 sg5951 w5952 ho5953 M5954
            refine W_run 1 [(0, .slice p5382 x5380.length c5383), (2, .int .i64 x5390), (8, .slice p5426 (s5831.2.2.set s5831.2.1.toNat (⟨y5874.Guest, 0, y5874.Gave⟩ : Balloon)).length c5427), (9, .slice p5949 ap5948.length c5950), (25, .slice p5387 x5385.length c5388), (26, .int .i64 (x5385.length : Int)), (27, .int .i64 s5831.2.1)] w5952 (by kernel_rfl) ?_
            refine W_nil ?_
            refine N_block ?_
            refine N_then ?_
            refine G_region ?_
            refine W_run 2 [(0, .slice p5382 x5380.length c5383), (2, .int .i64 x5390), (8, .slice p5426 (s5831.2.2.set s5831.2.1.toNat (⟨y5874.Guest, 0, y5874.Gave⟩ : Balloon)).length c5427), (9, .slice p5949 ap5948.length c5950), (25, .slice p5387 x5385.length c5388), (26, .int .i64 (x5385.length : Int)), (27, .int .i64 (w64 (s5831.2.1 + 1)))] w5952 (by kernel_rfl) ?_
            refine W_nil ?_
            obtain rfl := Option.some.inj hm
            exact N_loop fun a ha => ⟨_, rfl, p5949, c5950, sg5951, sg5884, sg5847, ho5953, ho5886, M5954.pick [0, 1, 2] (by kernel_rfl), ha.sub (by kernel_rfl)⟩
        · refine G_cond_f (b := (decide (s5831.2.1 < (x5385.length : Int)))) hc5858 (by kernel_rfl) ?_
          refine G_exit ?_
          refine N_then_exit ?_
          refine N_then_exit ?_
          refine N_block_eq ?_
          obtain rfl := Option.some.inj hm
          obtain rfl := hout5833 _ rfl
          exact N_meet fun a ha => ⟨p5841, c5842, sg5843, sg5846, sg5847, ho5844, ho5848, M5836.pick [0, 1, 2] (by kernel_rfl), ha.sub (by kernel_rfl)⟩
      · intro a5956 w5957 ⟨p5850, c5851, sg5852, sg5855, sg5856, ho5853, ho5857, M5958, hS5959⟩
        refine N_use hS5959 ?_
        have hm := hmo5840
        refine N_then ?_
        refine G_seq ?_
        refine G_seq ?_
        refine G_region ?_
        refine W_run 2 [(8, .slice p5426 out5838.2.length c5427), (9, .slice p5850 out5838.1.length c5851), (49, .int .i64 x5390), (50, .int .i64 0)] w5957 (by kernel_rfl) ?_
        refine W_nil ?_
        refine N_then ?_
        obtain ⟨out6102, hw6103, hmo6104⟩ := gx_bind hm
        refine G_meet (fun a w' => ∃ (o6110 : List Balloon × List Int), ∃ (sg6111 : Seg), ∃ (sg6112 : Seg), ∃ (sg6114 : Seg), ownD deepBalloon o6110.1 p5426 c5427 sg6111 sg6112 ∧ ownS encI o6110.2 p5850 c5851 sg6114 ∧ out6102 = .inl o6110 ∧ Mem [] w w' [sg6111, sg6112] ∧ Sat Try.f31.ntmps [(8, .slice p5426 o6110.1.length c5427)] a) ?_ ?_
        · refine G_block ?_
          refine G_while (σ := Int × List Balloon × List Int) (ρ := (List Balloon × List Int) ⊕ ((List Balloon) × Bool)) (fun s6095 a w' => ∃ (sg6105 : Seg), ∃ (sg6106 : Seg), ∃ (sg6108 : Seg), ownD deepBalloon s6095.2.1 p5426 c5427 sg6105 sg6106 ∧ ownS encI s6095.2.2 p5850 c5851 sg6108 ∧ Mem [] w w' [sg6105, sg6106, sg6108] ∧ Sat Try.f31.ntmps [(8, .slice p5426 s6095.2.1.length c5427), (9, .slice p5850 s6095.2.2.length c5851), (49, .int .i64 x5390), (50, .int .i64 s6095.1)] a) hw6103 (fun a ha => ⟨sg5855, sg5856, sg5852, ho5857, ho5853, M5958.pick [1, 2, 0] (by kernel_rfl), ha.sub (by kernel_rfl)⟩) ?_
          clear hm
          intro s6095 x6096 hm hout6097 a6098 w6099 ⟨sg6105, sg6106, sg6108, ho6107, ho6109, M6100, hS6101⟩
          refine G_use hS6101 ?_
          refine G_seq ?_
          refine G_region ?_
          refine W_run 1 [(8, .slice p5426 s6095.2.1.length c5427), (9, .slice p5850 s6095.2.2.length c5851), (49, .int .i64 x5390), (50, .int .i64 s6095.1), (51, .bool (decide (s6095.1 < x5390)))] w6099 (by kernel_rfl) ?_
          refine W_nil ?_
          refine N_then ?_
          refine G_seq ?_
          rcases gx_bif hm with ⟨hc6116, hm⟩ | ⟨hc6116, hm⟩
          · refine G_cond_t (b := (decide (s6095.1 < x5390))) hc6116 (by kernel_rfl) ?_
            refine G_skip ?_
            refine N_then ?_
            refine G_seq ?_
            refine G_block ?_
            refine G_seq ?_
            refine G_seq ?_
            obtain ⟨o6122, ho6123, hm6124⟩ := gx_bind hm
            refine G_meet (fun a w' => Mem [] w w' [sg6105, sg6106, sg6108] ∧ Sat Try.f31.ntmps [(8, .slice p5426 s6095.2.1.length c5427), (9, .slice p5850 s6095.2.2.length c5851), (49, .int .i64 x5390), (50, .int .i64 s6095.1), (59, .bool o6122)] a) ?_ ?_
            · have hm := ho6123
              refine G_region ?_
              refine W_run 4 [(8, .slice p5426 s6095.2.1.length c5427), (9, .slice p5850 s6095.2.2.length c5851), (49, .int .i64 x5390), (50, .int .i64 s6095.1), (55, .bool ((s6095.2.2.length : Int) == 0))] w6099 (by kernel_rfl) ?_
              rcases gx_bif hm with ⟨hc6125, hm⟩ | ⟨hc6125, hm⟩
              · refine W_known 55 true (by kernel_rfl) hc6125 ?_
                refine W_run 4 [(8, .slice p5426 s6095.2.1.length c5427), (9, .slice p5850 s6095.2.2.length c5851), (49, .int .i64 x5390), (50, .int .i64 s6095.1), (59, .bool true)] w6099 (by kernel_rfl) ?_
                refine W_nil ?_
                obtain rfl := Option.some.inj hm
                exact N_meet fun a ha => ⟨M6100.pick [0, 1, 2] (by kernel_rfl), ha.sub (by kernel_rfl)⟩
              · refine W_known 55 false (by kernel_rfl) hc6125 ?_
                refine W_run 1 [(8, .slice p5426 s6095.2.1.length c5427), (9, .slice p5850 s6095.2.2.length c5851), (49, .int .i64 x5390), (50, .int .i64 s6095.1), (55, .bool false), (56, .slice p5850 s6095.2.2.length c5851)] w6099 (by kernel_rfl) ?_
                obtain ⟨r6126, hr6126, hm⟩ := gx_bind hm
                refine W_call 67 #[.slice p5850 s6095.2.2.length c5851] (by kernel_rfl) (by kernel_rfl) ?_
                refine (c_slices_Max_67 w6099 s6095.2.2 p5850 c5851 (ho6109.rd M6100 2 (by kernel_rfl)) hr6126).mono ?_
                rintro e_ w6127 ⟨rfl, K6128⟩
                have M6129 := M6100.call0 K6128
                refine ⟨_, rfl, ?_⟩
                refine W_run 2 [(8, .slice p5426 s6095.2.1.length c5427), (9, .slice p5850 s6095.2.2.length c5851), (49, .int .i64 x5390), (50, .int .i64 s6095.1), (59, .bool (decide (r6126 < 2)))] w6127 (by kernel_rfl) ?_
                refine W_nil ?_
                obtain rfl := Option.some.inj hm
                exact N_meet fun a ha => ⟨M6129.pick [0, 1, 2] (by kernel_rfl), ha.sub (by kernel_rfl)⟩
            · intro a6132 w6130 ⟨M6131, hS6133⟩
              refine N_use hS6133 ?_
              have hm := hm6124
              refine N_then ?_
              rcases gx_bif hm with ⟨hc6134, hm⟩ | ⟨hc6134, hm⟩
              · refine G_cond_t (b := o6122) hc6134 (by kernel_rfl) ?_
                refine G_seq ?_
                refine G_region ?_
                refine W_run 2 [(6, .slice none 0 0), (7, .bool false)] w6130 (by kernel_rfl) ?_
                refine W_nil ?_
                refine N_then ?_
                refine G_ret ?_
                refine N_then_ret ?_
                refine N_block_ret ?_
                refine N_then_ret ?_
                refine N_then_ret ?_
                obtain rfl := Option.some.inj hm
                obtain rfl := hout6097 _ rfl
                have hm := hmo6104; simp only [Sum.elim_inr] at hm
                refine N_block_ret ?_
                refine N_meet_ret ?_
                refine N_then_ret ?_
                obtain rfl := Option.some.inj hm
                refine N_ret [.slice none 0 0, .bool false] (RVs_cons (RV_tmp (by kernel_rfl)) (RVs_cons (RV_tmp (by kernel_rfl)) RVs_nil)) ?_
                exact ⟨none, 0, [], [], rfl, ownD_nil, M6131.pick [100000, 100001] (by kernel_rfl)⟩
              · refine G_cond_f (b := o6122) hc6134 (by kernel_rfl) ?_
                refine G_skip ?_
                refine N_then ?_
                refine G_seq ?_
                refine G_region ?_
                refine W_run 2 [(8, .slice p5426 s6095.2.1.length c5427), (9, .slice p5850 s6095.2.2.length c5851), (49, .int .i64 x5390), (50, .int .i64 s6095.1), (60, .slice p5850 s6095.2.2.length c5851), (61, .slice p5850 s6095.2.2.length c5851)] w6130 (by kernel_rfl) ?_
                obtain ⟨r6136, hr6136, hm⟩ := gx_bind hm
                refine W_call 67 #[.slice p5850 s6095.2.2.length c5851] (by kernel_rfl) (by kernel_rfl) ?_
                refine (c_slices_Max_67 w6130 s6095.2.2 p5850 c5851 (ho6109.rd M6131 2 (by kernel_rfl)) hr6136).mono ?_
                rintro e_ w6137 ⟨rfl, K6138⟩
                have M6139 := M6131.call0 K6138
                refine ⟨_, rfl, ?_⟩
                obtain ⟨r6140, hr6140, hm⟩ := gx_bind hm
                refine W_call 63 #[.slice p5850 s6095.2.2.length c5851, .int .i64 r6136] (by kernel_rfl) (by kernel_rfl) ?_
                refine (c_slices_Index_63 w6137 s6095.2.2 p5850 c5851 (ho6109.rd M6139 2 (by kernel_rfl)) r6136 hr6140).mono ?_
                rintro e_ w6141 ⟨rfl, K6142⟩
                have M6143 := M6139.call0 K6142
                refine ⟨_, rfl, ?_⟩
                refine W_run 1 [(8, .slice p5426 s6095.2.1.length c5427), (9, .slice p5850 s6095.2.2.length c5851), (12, .int .i64 r6140), (49, .int .i64 x5390), (50, .int .i64 s6095.1)] w6141 (by kernel_rfl) ?_
                refine W_nil ?_
                refine N_then ?_
                refine G_seq ?_
                refine G_region ?_
                refine W_run 2 [(8, .slice p5426 s6095.2.1.length c5427), (9, .slice p5850 s6095.2.2.length c5851), (12, .int .i64 r6140), (49, .int .i64 x5390), (50, .int .i64 s6095.1), (64, .slice p5850 s6095.2.2.length c5851), (65, .int .i64 r6140)] w6141 (by kernel_rfl) ?_
                obtain ⟨y6144, hy6144, hm⟩ := gx_bind hm
                refine W_val (elemP p5850 (r6140.toNat * 1)) w6141 (by kernel_rfl) (E_index (E := encI) _ _ _ s6095.2.2.length c5851 .i64 r6140 1 (y := y6144) rfl (by kernel_rfl) (by kernel_rfl) (by kernel_rfl) (ho6109.rd M6143 2 (by kernel_rfl)) rfl hy6144) ?_
                refine W_val (.int .i64 y6144) w6141 (by kernel_rfl) (E_loadE (E := encI) _ _ false 1 r6140 0 (r6140.toNat * 1) y6144 (.int .i64 y6144) rfl (by kernel_rfl) (by kernel_rfl) (by kernel_rfl) (ho6109.rd M6143 2 (by kernel_rfl)) hy6144 rfl) ?_
                refine W_run 1 [(8, .slice p5426 s6095.2.1.length c5427), (9, .slice p5850 s6095.2.2.length c5851), (12, .int .i64 r6140), (49, .int .i64 x5390), (50, .int .i64 s6095.1), (64, .slice p5850 s6095.2.2.length c5851), (65, .int .i64 r6140), (68, .int .i64 (w64 (y6144 - 1)))] w6141 (by kernel_rfl) ?_
                obtain ⟨y6145, hy6145, hm⟩ := gx_bind hm
                refine W_val (elemP p5850 (r6140.toNat * 1)) w6141 (by kernel_rfl) (E_index (E := encI) _ _ _ s6095.2.2.length c5851 .i64 r6140 1 (y := y6145) rfl (by kernel_rfl) (by kernel_rfl) (by kernel_rfl) (ho6109.rd M6143 2 (by kernel_rfl)) rfl hy6145) ?_
                refine W_storeE (E := encI) _ _ _ false 1 r6140.toNat 0 (r6140.toNat * 1) y6145 (w64 (y6144 - 1)) (.int .i64 (w64 (y6144 - 1))) 2 M6143 ho6109 (by kernel_rfl) (by kernel_rfl) rfl (by kernel_rfl) (by kernel_rfl) (by kernel_rfl) (by kernel_rfl) (by kernel_rfl) (by kernel_rfl) (by kernel_rfl) (gxIdx_spec hy6145).2 rfl ?_
                intro w6146 sg6148 ho6149 M6147
                refine W_conv 9 (.slice p5850 s6095.2.2.length c5851) (.slice p5850 (s6095.2.2.set r6140.toNat (w64 (y6144 - 1))).length c5851) (by kernel_rfl) (by rw [@List.length_set _ s6095.2.2 r6140.toNat (w64 (y6144 - 1))]) ?_
                refine W_conv 64 (.slice p5850 s6095.2.2.length c5851) (.slice p5850 (s6095.2.2.set r6140.toNat (w64 (y6144 - 1))).length c5851) (by kernel_rfl) (by rw [@List.length_set _ s6095.2.2 r6140.toNat (w64 (y6144 - 1))]) ?_
                refine W_nil ?_
                refine N_then ?_
                refine G_region ?_
                refine W_run 2 [(8, .slice p5426 s6095.2.1.length c5427), (9, .slice p5850 (s6095.2.2.set r6140.toNat (w64 (y6144 - 1))).length c5851), (49, .int .i64 x5390), (50, .int .i64 s6095.1), (70, .slice p5426 s6095.2.1.length c5427), (71, .int .i64 r6140)] w6146 (by kernel_rfl) ?_
                obtain ⟨y6150, hy6150, hm⟩ := gx_bind hm
                obtain ⟨zs6151, hz6152, hr6153, hi6154⟩ := id ho6107
                obtain ⟨g6155, hg6156⟩ := gxIdx_fst hz6152 hy6150
                refine W_val (elemP p5426 (r6140.toNat * 3)) w6146 (by kernel_rfl) (E_index (E := deepBalloon.E) _ _ _ s6095.2.1.length c5427 .i64 r6140 3 (y := (y6150, g6155)) rfl (by kernel_rfl) (by kernel_rfl) (by kernel_rfl) (hr6153.rd M6147 0 (by kernel_rfl)) (len_fst hz6152) hg6156) ?_
                refine W_val (elemP p5426 (r6140.toNat * 3 + 1)) w6146 (by kernel_rfl) (E_fieldE (E := deepBalloon.E) _ _ 1 (r6140.toNat * 3) 1 rfl (by kernel_rfl) (by kernel_rfl) (hr6153.rd M6147 0 (by kernel_rfl)) hg6156) ?_
                refine W_val (.int .i64 y6150.Goal) w6146 (by kernel_rfl) (E_loadE (E := deepBalloon.E) _ _ false 1 r6140 1 (r6140.toNat * 3 + 1) (y6150, g6155) (.int .i64 y6150.Goal) rfl (by kernel_rfl) (by kernel_rfl) (by kernel_rfl) (hr6153.rd M6147 0 (by kernel_rfl)) hg6156 rfl) ?_
                refine W_run 1 [(8, .slice p5426 s6095.2.1.length c5427), (9, .slice p5850 (s6095.2.2.set r6140.toNat (w64 (y6144 - 1))).length c5851), (49, .int .i64 x5390), (50, .int .i64 s6095.1), (70, .slice p5426 s6095.2.1.length c5427), (71, .int .i64 r6140), (75, .int .i64 (w64 (y6150.Goal + 1)))] w6146 (by kernel_rfl) ?_
                obtain ⟨y6158, hy6158, hm⟩ := gx_bind hm
                obtain ⟨g6159, hg6160⟩ := gxIdx_fst hz6152 hy6158
                refine W_val (elemP p5426 (r6140.toNat * 3)) w6146 (by kernel_rfl) (E_index (E := deepBalloon.E) _ _ _ s6095.2.1.length c5427 .i64 r6140 3 (y := (y6158, g6159)) rfl (by kernel_rfl) (by kernel_rfl) (by kernel_rfl) (hr6153.rd M6147 0 (by kernel_rfl)) (len_fst hz6152) hg6160) ?_
                refine W_val (elemP p5426 (r6140.toNat * 3 + 1)) w6146 (by kernel_rfl) (E_fieldE (E := deepBalloon.E) _ _ 1 (r6140.toNat * 3) 1 rfl (by kernel_rfl) (by kernel_rfl) (hr6153.rd M6147 0 (by kernel_rfl)) hg6160) ?_
                refine W_storeE (E := deepBalloon.E) _ _ _ false 1 r6140.toNat 1 (r6140.toNat * 3 + 1) (y6158, g6159) ((⟨y6158.Guest, w64 (y6150.Goal + 1), y6158.Gave⟩ : Balloon), g6159) (.int .i64 (w64 (y6150.Goal + 1))) 0 M6147 hr6153 (by kernel_rfl) (by kernel_rfl) rfl (by kernel_rfl) (by kernel_rfl) (by kernel_rfl) (by kernel_rfl) (by kernel_rfl) (by kernel_rfl) (by kernel_rfl) (gxIdx_spec hg6160).2 rfl ?_
                intro w6162 sg6164 ho6165 M6163
                have ho6166 : ownD deepBalloon (s6095.2.1.set r6140.toNat (⟨y6158.Guest, w64 (y6150.Goal + 1), y6158.Gave⟩ : Balloon)) p5426 c5427 sg6164 sg6106 := ⟨_, set_fst hz6152 r6140.toNat ((⟨y6158.Guest, w64 (y6150.Goal + 1), y6158.Gave⟩ : Balloon), g6159), ho6165, (by rw [flatMap_setSame (gxIdx_spec hg6160).2 (by kernel_rfl)]; exact hi6154)⟩
                refine W_conv 8 (.slice p5426 s6095.2.1.length c5427) (.slice p5426 (s6095.2.1.set r6140.toNat (⟨y6158.Guest, w64 (y6150.Goal + 1), y6158.Gave⟩ : Balloon)).length c5427) (by kernel_rfl) (by rw [@List.length_set _ s6095.2.1 r6140.toNat (⟨y6158.Guest, w64 (y6150.Goal + 1), y6158.Gave⟩ : Balloon)]) ?_
                refine W_conv 70 (.slice p5426 s6095.2.1.length c5427) (.slice p5426 (s6095.2.1.set r6140.toNat (⟨y6158.Guest, w64 (y6150.Goal + 1), y6158.Gave⟩ : Balloon)).length c5427) (by kernel_rfl) (by rw [@List.length_set _ s6095.2.1 r6140.toNat (⟨y6158.Guest, w64 (y6150.Goal + 1), y6158.Gave⟩ : Balloon)]) ?_
                refine W_nil ?_
                refine N_block ?_
                refine N_then ?_
                refine G_region ?_
                refine W_run 2 [(8, .slice p5426 (s6095.2.1.set r6140.toNat (⟨y6158.Guest, w64 (y6150.Goal + 1), y6158.Gave⟩ : Balloon)).length c5427), (9, .slice p5850 (s6095.2.2.set r6140.toNat (w64 (y6144 - 1))).length c5851), (49, .int .i64 x5390), (50, .int .i64 (w64 (s6095.1 + 1)))] w6162 (by kernel_rfl) ?_
                refine W_nil ?_
                obtain rfl := Option.some.inj hm
                exact N_loop fun a ha => ⟨_, rfl, sg6164, sg6106, sg6148, ho6166, ho6149, M6163.pick [0, 1, 2] (by kernel_rfl), ha.sub (by kernel_rfl)⟩
          · refine G_cond_f (b := (decide (s6095.1 < x5390))) hc6116 (by kernel_rfl) ?_
            refine G_exit ?_
            refine N_then_exit ?_
            refine N_then_exit ?_
            refine N_block_eq ?_
            obtain rfl := Option.some.inj hm
            obtain rfl := hout6097 _ rfl
            exact N_meet fun a ha => ⟨_, sg6105, sg6106, sg6108, ho6107, ho6109, rfl, M6100.pick [0, 1] (by kernel_rfl), ha.sub (by kernel_rfl)⟩
        · intro a6167 w6168 ⟨o6110, sg6111, sg6112, sg6114, ho6113, ho6115, hout_, M6169, hS6170⟩
          refine N_use hS6170 ?_
          subst hout_
          have hm := hmo6104; simp only [Sum.elim_inl] at hm
          refine N_then ?_
          refine G_seq ?_
          refine G_region ?_
          refine W_run 3 [(6, .slice p5426 o6110.1.length c5427), (7, .bool true)] w6168 (by kernel_rfl) ?_
          refine W_nil ?_
          refine N_then ?_
          refine G_ret ?_
          obtain rfl := Option.some.inj hm
          refine N_ret [.slice p5426 o6110.1.length c5427, .bool true] (RVs_cons (RV_tmp (by kernel_rfl)) (RVs_cons (RV_tmp (by kernel_rfl)) RVs_nil)) ?_
          exact ⟨p5426, c5427, sg6111, sg6112, rfl, ho6113, M6169.pick [0, 1] (by kernel_rfl)⟩
theorem c_l_FnExactShareGoals (w : World) (x4472 : List Int) (p4474 : Option Addr) (c4475 : Nat) (h4476 : rdS encI w x4472 p4474 c4475) (x4477 : List Balloon) (p4479 : Option Addr) (c4480 : Nat) (h4481 : rdD deepBalloon w x4477 p4479 c4480) (x4482 : Int) {r : Bool} (hm : M.l_FnExactShareGoals x4472 x4477 x4482 = some r) :
    Calls Try.prog 7 #[.slice p4474 x4472.length c4475, .slice p4479 x4477.length c4480, .int .i64 x4482] w fun e w' => e = .returned (.bool r) ∧ Mem [] w w' [] := by
  unfold M.l_FnExactShareGoals at hm
  refine C_enter Try.func7 rfl (by kernel_rfl) ?_
  have M0 := Mem.refl [] w
  refine G_seq ?_
  refine G_region ?_
  refine W_run 1 [(0, .slice p4474 x4472.length c4475), (1, .slice p4479 x4477.length c4480), (2, .int .i64 x4482)] w (by kernel_rfl) ?_
  refine W_nil ?_
  refine N_then ?_
  refine G_seq ?_
  refine G_seq ?_
  refine G_region ?_
  refine W_run 3 [(0, .slice p4474 x4472.length c4475), (1, .slice p4479 x4477.length c4480), (2, .int .i64 x4482), (21, .bool (decide ((x4472.length : Int) > 1048576)))] w (by kernel_rfl) ?_
  refine W_nil ?_
  refine N_then ?_
  rcases gx_bif hm with ⟨hc4483, hm⟩ | ⟨hc4483, hm⟩
  · refine G_cond_t (b := (decide ((x4472.length : Int) > 1048576))) hc4483 (by kernel_rfl) ?_
    refine G_seq ?_
    refine G_region ?_
    refine W_run 1 [(6, .bool true)] w (by kernel_rfl) ?_
    refine W_nil ?_
    refine N_then ?_
    refine G_ret ?_
    refine N_then_ret ?_
    obtain rfl := Option.some.inj hm
    refine N_ret [.bool true] (RVs_cons (RV_tmp (by kernel_rfl)) RVs_nil) ?_
    exact ⟨rfl, M0.pick [] (by kernel_rfl)⟩
  · refine G_cond_f (b := (decide ((x4472.length : Int) > 1048576))) hc4483 (by kernel_rfl) ?_
    refine G_skip ?_
    refine N_then ?_
    refine G_seq ?_
    refine G_region ?_
    refine W_run 1 [(0, .slice p4474 x4472.length c4475), (1, .slice p4479 x4477.length c4480), (2, .int .i64 x4482), (7, .int .i64 1048576)] w (by kernel_rfl) ?_
    refine W_nil ?_
    refine N_then ?_
    refine G_seq ?_
    refine G_region ?_
    refine W_run 2 [(0, .slice p4474 x4472.length c4475), (1, .slice p4479 x4477.length c4480), (2, .int .i64 x4482), (7, .int .i64 1048576), (22, .slice p4479 x4477.length c4480), (23, .int .i64 1048576)] w (by kernel_rfl) ?_
    obtain ⟨r4484, hr4484, hm⟩ := gx_bind hm
    refine W_call 13 #[.slice p4479 x4477.length c4480, .int .i64 1048576] (by kernel_rfl) (by kernel_rfl) ?_
    refine (c_l_szBalloonS w x4477 p4479 c4480 (h4481.mem0 M0) 1048576 hr4484).mono ?_
    rintro e_ w4485 ⟨rfl, K4486⟩
    have M4487 := M0.call0 K4486
    refine ⟨_, rfl, ?_⟩
    refine W_run 1 [(0, .slice p4474 x4472.length c4475), (1, .slice p4479 x4477.length c4480), (2, .int .i64 x4482), (7, .int .i64 r4484)] w4485 (by kernel_rfl) ?_
    refine W_nil ?_
    refine N_then ?_
    refine G_seq ?_
    refine G_seq ?_
    refine G_region ?_
    refine W_run 2 [(0, .slice p4474 x4472.length c4475), (1, .slice p4479 x4477.length c4480), (2, .int .i64 x4482), (26, .bool (decide (r4484 < 0)))] w4485 (by kernel_rfl) ?_
    refine W_nil ?_
    refine N_then ?_
    rcases gx_bif hm with ⟨hc4488, hm⟩ | ⟨hc4488, hm⟩
    · refine G_cond_t (b := (decide (r4484 < 0))) hc4488 (by kernel_rfl) ?_
      refine G_seq ?_
      refine G_region ?_
      refine W_run 1 [(6, .bool true)] w4485 (by kernel_rfl) ?_
      refine W_nil ?_
      refine N_then ?_
      refine G_ret ?_
      refine N_then_ret ?_
      obtain rfl := Option.some.inj hm
      refine N_ret [.bool true] (RVs_cons (RV_tmp (by kernel_rfl)) RVs_nil) ?_
      exact ⟨rfl, M4487.pick [] (by kernel_rfl)⟩
    · refine G_cond_f (b := (decide (r4484 < 0))) hc4488 (by kernel_rfl) ?_
      refine G_skip ?_
      refine N_then ?_
      refine G_seq ?_
      refine G_region ?_
      refine W_run 1 [(0, .slice p4474 x4472.length c4475), (1, .slice p4479 x4477.length c4480), (2, .int .i64 x4482), (28, .slice p4474 x4472.length c4475)] w4485 (by kernel_rfl) ?_
      obtain ⟨r4489, hr4489, hm⟩ := gx_bind hm
      refine W_call 15 #[.slice p4474 x4472.length c4475] (by kernel_rfl) (by kernel_rfl) ?_
      refine (c_l_toIntS w4485 x4472 p4474 c4475 (h4476.mem0 M4487) hr4489).mono ?_
      rintro e_ w4495 ⟨p4491, c4492, sg4493, rfl, ho4494, K4496⟩
      have M4497 := M4487.call K4496
      refine ⟨_, rfl, ?_⟩
      refine W_run 1 [(0, .slice p4474 x4472.length c4475), (1, .slice p4479 x4477.length c4480), (2, .int .i64 x4482), (29, .slice p4491 r4489.length c4492), (30, .slice p4479 x4477.length c4480)] w4495 (by kernel_rfl) ?_
      obtain ⟨r4498, hr4498, hm⟩ := gx_bind hm
      refine W_call 16 #[.slice p4479 x4477.length c4480] (by kernel_rfl) (by kernel_rfl) ?_
      refine (c_l_toBalloonS w4495 x4477 p4479 c4480 (h4481.mem0 M4497) hr4498).mono ?_
      rintro e_ w4505 ⟨p4500, c4501, sg4502, sg4503, rfl, ho4504, K4506⟩
      have M4507 := M4497.call K4506
      refine ⟨_, rfl, ?_⟩
      refine W_run 1 [(0, .slice p4474 x4472.length c4475), (1, .slice p4479 x4477.length c4480), (2, .int .i64 x4482), (29, .slice p4491 r4489.length c4492), (31, .slice p4500 r4498.length c4501), (32, .int .i64 x4482)] w4505 (by kernel_rfl) ?_
      obtain ⟨r5351, hr5351, hm⟩ := gx_bind hm
      refine W_call 30 #[.slice p4491 r4489.length c4492, .slice p4500 r4498.length c4501, .int .i64 x4482] (by kernel_rfl) (by kernel_rfl) ?_
      refine (c_s_ShareGoals w4505 r4489 p4491 c4492 (ho4494.rd M4507 0 (by kernel_rfl)) r4498 p4500 c4501 (ho4504.rd M4507 1 (by kernel_rfl) 2 (by kernel_rfl)) x4482 hr5351).mono ?_
      rintro e_ w5358 ⟨p5353, c5354, sg5355, sg5356, rfl, ho5357, K5359⟩
      have M5360 := M4507.call K5359
      refine ⟨_, rfl, ?_⟩
      refine W_run 5 [(0, .slice p4474 x4472.length c4475), (1, .slice p4479 x4477.length c4480), (2, .int .i64 x4482), (8, .slice p5353 r5351.1.length c5354), (9, .bool r5351.2)] w5358 (by kernel_rfl) ?_
      refine W_nil ?_
      refine N_then ?_
      refine G_seq ?_
      refine G_region ?_
      refine W_run 1 [(0, .slice p4474 x4472.length c4475), (1, .slice p4479 x4477.length c4480), (2, .int .i64 x4482), (8, .slice p5353 r5351.1.length c5354), (9, .bool r5351.2), (36, .slice p4474 x4472.length c4475)] w5358 (by kernel_rfl) ?_
      obtain ⟨r5361, hr5361, hm⟩ := gx_bind hm
      refine W_call 15 #[.slice p4474 x4472.length c4475] (by kernel_rfl) (by kernel_rfl) ?_
      refine (c_l_toIntS w5358 x4472 p4474 c4475 (h4476.mem0 M5360) hr5361).mono ?_
      rintro e_ w5367 ⟨p5363, c5364, sg5365, rfl, ho5366, K5368⟩
      have M5369 := M5360.call K5368
      refine ⟨_, rfl, ?_⟩
      refine W_run 1 [(0, .slice p4474 x4472.length c4475), (1, .slice p4479 x4477.length c4480), (2, .int .i64 x4482), (8, .slice p5353 r5351.1.length c5354), (9, .bool r5351.2), (10, .slice p5363 r5361.length c5364)] w5367 (by kernel_rfl) ?_
      refine W_nil ?_
      refine N_then ?_
      refine G_seq ?_
      refine G_region ?_
      refine W_run 1 [(0, .slice p4474 x4472.length c4475), (1, .slice p4479 x4477.length c4480), (2, .int .i64 x4482), (8, .slice p5353 r5351.1.length c5354), (9, .bool r5351.2), (10, .slice p5363 r5361.length c5364), (38, .slice p4479 x4477.length c4480)] w5367 (by kernel_rfl) ?_
      obtain ⟨r5370, hr5370, hm⟩ := gx_bind hm
      refine W_call 16 #[.slice p4479 x4477.length c4480] (by kernel_rfl) (by kernel_rfl) ?_
      refine (c_l_toBalloonS w5367 x4477 p4479 c4480 (h4481.mem0 M5369) hr5370).mono ?_
      rintro e_ w5377 ⟨p5372, c5373, sg5374, sg5375, rfl, ho5376, K5378⟩
      have M5379 := M5369.call K5378
      refine ⟨_, rfl, ?_⟩
      refine W_run 1 [(0, .slice p4474 x4472.length c4475), (1, .slice p4479 x4477.length c4480), (2, .int .i64 x4482), (8, .slice p5353 r5351.1.length c5354), (9, .bool r5351.2), (10, .slice p5363 r5361.length c5364), (11, .slice p5372 r5370.length c5373)] w5377 (by kernel_rfl) ?_
      refine W_nil ?_
      refine N_then ?_
      refine G_seq ?_
      refine G_region ?_
      refine W_run 3 [(0, .slice p4474 x4472.length c4475), (1, .slice p4479 x4477.length c4480), (2, .int .i64 x4482), (8, .slice p5353 r5351.1.length c5354), (9, .bool r5351.2), (10, .slice p5363 r5361.length c5364), (11, .slice p5372 r5370.length c5373), (41, .slice p5363 r5361.length c5364), (42, .slice p5372 r5370.length c5373), (43, .int .i64 x4482)] w5377 (by kernel_rfl) ?_
      obtain ⟨r6171, hr6171, hm⟩ := gx_bind hm
      refine W_call 31 #[.slice p5363 r5361.length c5364, .slice p5372 r5370.length c5373, .int .i64 x4482] (by kernel_rfl) (by kernel_rfl) ?_
      refine (c_i_ShareGoals w5377 r5361 p5363 c5364 (ho5366.rd M5379 5 (by kernel_rfl)) r5370 p5372 c5373 (ho5376.rd M5379 6 (by kernel_rfl) 7 (by kernel_rfl)) x4482 hr6171).mono ?_
      rintro e_ w6178 ⟨p6173, c6174, sg6175, sg6176, rfl, ho6177, K6179⟩
      have M6180 := M5379.call K6179
      refine ⟨_, rfl, ?_⟩
      refine W_run 5 [(0, .slice p4474 x4472.length c4475), (1, .slice p4479 x4477.length c4480), (2, .int .i64 x4482), (8, .slice p5353 r5351.1.length c5354), (9, .bool r5351.2), (10, .slice p5363 r5361.length c5364), (11, .slice p5372 r5370.length c5373), (12, .slice p6173 r6171.1.length c6174), (13, .bool r6171.2)] w6178 (by kernel_rfl) ?_
      refine W_nil ?_
      refine N_then ?_
      refine G_seq ?_
      refine G_seq ?_
      obtain ⟨o6186, ho6187, hm6188⟩ := gx_bind hm
      refine G_meet (fun a w' => Mem [] w w' [sg5355, sg5356, sg5365, sg5374, sg5375, sg6175, sg6176] ∧ Sat Try.f7.ntmps [(0, .slice p4474 x4472.length c4475), (1, .slice p4479 x4477.length c4480), (2, .int .i64 x4482), (8, .slice p5353 r5351.1.length c5354), (9, .bool r5351.2), (10, .slice p5363 r5361.length c5364), (11, .slice p5372 r5370.length c5373), (12, .slice p6173 r6171.1.length c6174), (13, .bool r6171.2), (55, .bool o6186)] a) ?_ ?_
      · have hm := ho6187
        refine G_region ?_
        refine W_run 2 [(0, .slice p4474 x4472.length c4475), (1, .slice p4479 x4477.length c4480), (2, .int .i64 x4482), (8, .slice p5353 r5351.1.length c5354), (9, .bool r5351.2), (10, .slice p5363 r5361.length c5364), (11, .slice p5372 r5370.length c5373), (12, .slice p6173 r6171.1.length c6174), (13, .bool r6171.2), (47, .slice p6173 r6171.1.length c6174), (48, .slice p5353 r5351.1.length c5354)] w6178 (by kernel_rfl) ?_
        obtain ⟨r6189, hr6189, hm⟩ := gx_bind hm
        refine W_call 19 #[.slice p6173 r6171.1.length c6174, .slice p5353 r5351.1.length c5354] (by kernel_rfl) (by kernel_rfl) ?_
        refine (c_l_eqBalloonS w6178 r6171.1 p6173 c6174 (ho6177.rd M6180 8 (by kernel_rfl) 9 (by kernel_rfl)) r5351.1 p5353 c5354 (ho5357.rd M6180 3 (by kernel_rfl) 4 (by kernel_rfl)) hr6189).mono ?_
        rintro e_ w6190 ⟨rfl, K6191⟩
        have M6192 := M6180.call0 K6191
        refine ⟨_, rfl, ?_⟩
        refine W_run 2 [(0, .slice p4474 x4472.length c4475), (1, .slice p4479 x4477.length c4480), (2, .int .i64 x4482), (8, .slice p5353 r5351.1.length c5354), (9, .bool r5351.2), (10, .slice p5363 r5361.length c5364), (11, .slice p5372 r5370.length c5373), (12, .slice p6173 r6171.1.length c6174), (13, .bool r6171.2), (51, .bool (!r6189))] w6190 (by kernel_rfl) ?_
        rcases gx_bif hm with ⟨hc6193, hm⟩ | ⟨hc6193, hm⟩
        · refine W_known 51 true (by kernel_rfl) hc6193 ?_
          refine W_run 4 [(0, .slice p4474 x4472.length c4475), (1, .slice p4479 x4477.length c4480), (2, .int .i64 x4482), (8, .slice p5353 r5351.1.length c5354), (9, .bool r5351.2), (10, .slice p5363 r5361.length c5364), (11, .slice p5372 r5370.length c5373), (12, .slice p6173 r6171.1.length c6174), (13, .bool r6171.2), (55, .bool true)] w6190 (by kernel_rfl) ?_
          refine W_nil ?_
          obtain rfl := Option.some.inj hm
          exact N_meet fun a ha => ⟨M6192.pick [3, 4, 5, 6, 7, 8, 9] (by kernel_rfl), ha.sub (by kernel_rfl)⟩
        · refine W_known 51 false (by kernel_rfl) hc6193 ?_
          refine W_run 4 [(0, .slice p4474 x4472.length c4475), (1, .slice p4479 x4477.length c4480), (2, .int .i64 x4482), (8, .slice p5353 r5351.1.length c5354), (9, .bool r5351.2), (10, .slice p5363 r5361.length c5364), (11, .slice p5372 r5370.length c5373), (12, .slice p6173 r6171.1.length c6174), (13, .bool r6171.2), (55, .bool (!(r6171.2 == r5351.2)))] w6190 (by kernel_rfl) ?_
          refine W_nil ?_
          obtain rfl := Option.some.inj hm
          exact N_meet fun a ha => ⟨M6192.pick [3, 4, 5, 6, 7, 8, 9] (by kernel_rfl), ha.sub (by kernel_rfl)⟩
      · intro a6196 w6194 ⟨M6195, hS6197⟩
        refine N_use hS6197 ?_
        have hm := hm6188
        refine N_then ?_
        rcases gx_bif hm with ⟨hc6198, hm⟩ | ⟨hc6198, hm⟩
        · refine G_cond_t (b := o6186) hc6198 (by kernel_rfl) ?_
          refine G_seq ?_
          refine G_region ?_
          refine W_run 1 [(6, .bool false)] w6194 (by kernel_rfl) ?_
          refine W_nil ?_
          refine N_then ?_
          refine G_ret ?_
          refine N_then_ret ?_
          obtain rfl := Option.some.inj hm
          refine N_ret [.bool false] (RVs_cons (RV_tmp (by kernel_rfl)) RVs_nil) ?_
          exact ⟨rfl, M6195.pick [] (by kernel_rfl)⟩
        · refine G_cond_f (b := o6186) hc6198 (by kernel_rfl) ?_
          refine G_skip ?_
          refine N_then ?_
          refine G_seq ?_
          refine G_seq ?_
          refine G_region ?_
          refine W_run 2 [(0, .slice p4474 x4472.length c4475), (1, .slice p4479 x4477.length c4480), (2, .int .i64 x4482), (8, .slice p5353 r5351.1.length c5354), (9, .bool r5351.2), (10, .slice p5363 r5361.length c5364), (11, .slice p5372 r5370.length c5373), (12, .slice p6173 r6171.1.length c6174), (13, .bool r6171.2), (56, .slice p5363 r5361.length c5364), (57, .slice p4474 x4472.length c4475)] w6194 (by kernel_rfl) ?_
          obtain ⟨r6199, hr6199, hm⟩ := gx_bind hm
          refine W_call 15 #[.slice p4474 x4472.length c4475] (by kernel_rfl) (by kernel_rfl) ?_
          refine (c_l_toIntS w6194 x4472 p4474 c4475 (h4476.mem0 M6195) hr6199).mono ?_
          rintro e_ w6205 ⟨p6201, c6202, sg6203, rfl, ho6204, K6206⟩
          have M6207 := M6195.call K6206
          refine ⟨_, rfl, ?_⟩
          obtain ⟨r6208, hr6208, hm⟩ := gx_bind hm
          refine W_call 18 #[.slice p5363 r5361.length c5364, .slice p6201 r6199.length c6202] (by kernel_rfl) (by kernel_rfl) ?_
          refine (c_l_eqIntS w6205 r5361 p5363 c5364 (ho5366.rd M6207 2 (by kernel_rfl)) r6199 p6201 c6202 (ho6204.rd M6207 7 (by kernel_rfl)) hr6208).mono ?_
          rintro e_ w6209 ⟨rfl, K6210⟩
          have M6211 := M6207.call0 K6210
          refine ⟨_, rfl, ?_⟩
          refine W_run 1 [(0, .slice p4474 x4472.length c4475), (1, .slice p4479 x4477.length c4480), (2, .int .i64 x4482), (8, .slice p5353 r5351.1.length c5354), (9, .bool r5351.2), (10, .slice p5363 r5361.length c5364), (11, .slice p5372 r5370.length c5373), (12, .slice p6173 r6171.1.length c6174), (13, .bool r6171.2), (60, .bool (!r6208))] w6209 (by kernel_rfl) ?_
          refine W_nil ?_
          refine N_then ?_
          rcases gx_bif hm with ⟨hc6212, hm⟩ | ⟨hc6212, hm⟩
          · refine G_cond_t (b := (!r6208)) hc6212 (by kernel_rfl) ?_
            refine G_seq ?_
            refine G_region ?_
            refine W_run 1 [(6, .bool false)] w6209 (by kernel_rfl) ?_
            refine W_nil ?_
            refine N_then ?_
            refine G_ret ?_
            refine N_then_ret ?_
            obtain rfl := Option.some.inj hm
            refine N_ret [.bool false] (RVs_cons (RV_tmp (by kernel_rfl)) RVs_nil) ?_
            exact ⟨rfl, M6211.pick [] (by kernel_rfl)⟩
          · refine G_cond_f (b := (!r6208)) hc6212 (by kernel_rfl) ?_
            refine G_skip ?_
            refine N_then ?_
            refine G_seq ?_
            refine G_seq ?_
            refine G_region ?_
            refine W_run 2 [(0, .slice p4474 x4472.length c4475), (1, .slice p4479 x4477.length c4480), (2, .int .i64 x4482), (8, .slice p5353 r5351.1.length c5354), (9, .bool r5351.2), (10, .slice p5363 r5361.length c5364), (11, .slice p5372 r5370.length c5373), (12, .slice p6173 r6171.1.length c6174), (13, .bool r6171.2), (61, .slice p5372 r5370.length c5373), (62, .slice p4479 x4477.length c4480)] w6209 (by kernel_rfl) ?_
            obtain ⟨r6213, hr6213, hm⟩ := gx_bind hm
            refine W_call 16 #[.slice p4479 x4477.length c4480] (by kernel_rfl) (by kernel_rfl) ?_
            refine (c_l_toBalloonS w6209 x4477 p4479 c4480 (h4481.mem0 M6211) hr6213).mono ?_
            rintro e_ w6220 ⟨p6215, c6216, sg6217, sg6218, rfl, ho6219, K6221⟩
            have M6222 := M6211.call K6221
            refine ⟨_, rfl, ?_⟩
            obtain ⟨r6223, hr6223, hm⟩ := gx_bind hm
            refine W_call 19 #[.slice p5372 r5370.length c5373, .slice p6215 r6213.length c6216] (by kernel_rfl) (by kernel_rfl) ?_
            refine (c_l_eqBalloonS w6220 r5370 p5372 c5373 (ho5376.rd M6222 3 (by kernel_rfl) 4 (by kernel_rfl)) r6213 p6215 c6216 (ho6219.rd M6222 8 (by kernel_rfl) 9 (by kernel_rfl)) hr6223).mono ?_
            rintro e_ w6224 ⟨rfl, K6225⟩
            have M6226 := M6222.call0 K6225
            refine ⟨_, rfl, ?_⟩
            refine W_run 1 [(0, .slice p4474 x4472.length c4475), (1, .slice p4479 x4477.length c4480), (2, .int .i64 x4482), (8, .slice p5353 r5351.1.length c5354), (9, .bool r5351.2), (10, .slice p5363 r5361.length c5364), (11, .slice p5372 r5370.length c5373), (12, .slice p6173 r6171.1.length c6174), (13, .bool r6171.2), (65, .bool (!r6223))] w6224 (by kernel_rfl) ?_
            refine W_nil ?_
            refine N_then ?_
            rcases gx_bif hm with ⟨hc6227, hm⟩ | ⟨hc6227, hm⟩
            · refine G_cond_t (b := (!r6223)) hc6227 (by kernel_rfl) ?_
              refine G_seq ?_
              refine G_region ?_
              refine W_run 1 [(6, .bool false)] w6224 (by kernel_rfl) ?_
              refine W_nil ?_
              refine N_then ?_
              refine G_ret ?_
              refine N_then_ret ?_
              obtain rfl := Option.some.inj hm
              refine N_ret [.bool false] (RVs_cons (RV_tmp (by kernel_rfl)) RVs_nil) ?_
              exact ⟨rfl, M6226.pick [] (by kernel_rfl)⟩
            · refine G_cond_f (b := (!r6223)) hc6227 (by kernel_rfl) ?_
              refine G_skip ?_
              refine N_then ?_
              refine G_seq ?_
              refine G_region ?_
              refine W_run 1 [(0, .slice p4474 x4472.length c4475), (1, .slice p4479 x4477.length c4480), (2, .int .i64 x4482), (8, .slice p5353 r5351.1.length c5354), (9, .bool r5351.2), (10, .slice p5363 r5361.length c5364), (11, .slice p5372 r5370.length c5373), (12, .slice p6173 r6171.1.length c6174), (13, .bool r6171.2), (14, .int .i64 1)] w6224 (by kernel_rfl) ?_
              refine W_nil ?_
              refine N_then ?_
              refine G_seq ?_
              refine G_region ?_
              refine W_run 2 [(0, .slice p4474 x4472.length c4475), (1, .slice p4479 x4477.length c4480), (2, .int .i64 x4482), (8, .slice p5353 r5351.1.length c5354), (9, .bool r5351.2), (11, .slice p5372 r5370.length c5373), (12, .slice p6173 r6171.1.length c6174), (13, .bool r6171.2), (14, .int .i64 1), (66, .slice p5363 r5361.length c5364), (67, .int .i64 1)] w6224 (by kernel_rfl) ?_
              obtain ⟨r6228, hr6228, hm⟩ := gx_bind hm
              refine W_call 24 #[.slice p5363 r5361.length c5364, .int .i64 1] (by kernel_rfl) (by kernel_rfl) ?_
              refine (c_l_markIntS w6224 r5361 p5363 c5364 sg5365 ho5366 1 (M6226.hasPick [2]) (M6226.nodupPick [2] (by kernel_rfl)) hr6228).mono ?_
              rintro e_ w6232 ⟨sg6229, rfl, ho6230, hl6231, K6233⟩
              have M6234 := M6226.callF' [2] [0, 1, 3, 4, 5, 6, 7, 8, 9] (by kernel_rfl) K6233
              refine ⟨_, rfl, ?_⟩
              refine W_conv 66 (.slice p5363 r5361.length c5364) (.slice p5363 r6228.2.length c5364) (by kernel_rfl) (by first | rw [hl6231] | rw [hl6231]) ?_
              refine W_run 1 [(0, .slice p4474 x4472.length c4475), (1, .slice p4479 x4477.length c4480), (2, .int .i64 x4482), (8, .slice p5353 r5351.1.length c5354), (9, .bool r5351.2), (11, .slice p5372 r5370.length c5373), (12, .slice p6173 r6171.1.length c6174), (13, .bool r6171.2), (14, .int .i64 r6228.1)] w6232 (by kernel_rfl) ?_
              refine W_nil ?_
              refine N_then ?_
              refine G_seq ?_
              refine G_region ?_
              refine W_run 2 [(0, .slice p4474 x4472.length c4475), (1, .slice p4479 x4477.length c4480), (2, .int .i64 x4482), (8, .slice p5353 r5351.1.length c5354), (9, .bool r5351.2), (12, .slice p6173 r6171.1.length c6174), (13, .bool r6171.2), (14, .int .i64 r6228.1), (69, .slice p5372 r5370.length c5373), (70, .int .i64 r6228.1)] w6232 (by kernel_rfl) ?_
              obtain ⟨r6235, hr6235, hm⟩ := gx_bind hm
              refine W_call 25 #[.slice p5372 r5370.length c5373, .int .i64 r6228.1] (by kernel_rfl) (by kernel_rfl) ?_
              refine (c_l_markBalloonS w6232 r5370 p5372 c5373 sg5374 sg5375 ho5376 r6228.1 (M6234.hasPick [2, 3]) (M6234.nodupPick [2, 3] (by kernel_rfl)) hr6235).mono ?_
              rintro e_ w6240 ⟨sg6236, sg6237, rfl, ho6238, hl6239, K6241⟩
              have M6242 := M6234.callF' [2, 3] [0, 1, 4, 5, 6, 7, 8, 9] (by kernel_rfl) K6241
              refine ⟨_, rfl, ?_⟩
              refine W_conv 69 (.slice p5372 r5370.length c5373) (.slice p5372 r6235.2.length c5373) (by kernel_rfl) (by first | rw [hl6239] | rw [hl6239]) ?_
              refine W_run 1 [(0, .slice p4474 x4472.length c4475), (1, .slice p4479 x4477.length c4480), (2, .int .i64 x4482), (8, .slice p5353 r5351.1.length c5354), (9, .bool r5351.2), (12, .slice p6173 r6171.1.length c6174), (13, .bool r6171.2), (14, .int .i64 r6235.1)] w6240 (by kernel_rfl) ?_
              refine W_nil ?_
              refine N_then ?_
              refine G_seq ?_
              refine G_seq ?_
              obtain ⟨o6249, ho6250, hm6251⟩ := gx_bind hm
              refine G_meet (fun a w' => Mem [] w w' [sg5355, sg5356, sg6175, sg6176] ∧ Sat Try.f7.ntmps [(0, .slice p4474 x4472.length c4475), (1, .slice p4479 x4477.length c4480), (2, .int .i64 x4482), (8, .slice p5353 r5351.1.length c5354), (9, .bool r5351.2), (12, .slice p6173 r6171.1.length c6174), (84, .bool o6249)] a) ?_ ?_
              · have hm := ho6250
                refine G_region ?_
                refine W_run 3 [(0, .slice p4474 x4472.length c4475), (1, .slice p4479 x4477.length c4480), (2, .int .i64 x4482), (8, .slice p5353 r5351.1.length c5354), (9, .bool r5351.2), (12, .slice p6173 r6171.1.length c6174), (13, .bool r6171.2), (74, .bool (decide (r6235.1 < 0)))] w6240 (by kernel_rfl) ?_
                rcases gx_bif hm with ⟨hc6252, hm⟩ | ⟨hc6252, hm⟩
                · refine W_known 74 true (by kernel_rfl) hc6252 ?_
                  refine W_run 10 [(0, .slice p4474 x4472.length c4475), (1, .slice p4479 x4477.length c4480), (2, .int .i64 x4482), (8, .slice p5353 r5351.1.length c5354), (9, .bool r5351.2), (12, .slice p6173 r6171.1.length c6174), (84, .bool true)] w6240 (by kernel_rfl) ?_
                  refine W_nil ?_
                  obtain rfl := Option.some.inj hm
                  exact N_meet fun a ha => ⟨M6242.pick [0, 1, 2, 3] (by kernel_rfl), ha.sub (by kernel_rfl)⟩
                · refine W_known 74 false (by kernel_rfl) hc6252 ?_
                  refine W_run 2 [(0, .slice p4474 x4472.length c4475), (1, .slice p4479 x4477.length c4480), (2, .int .i64 x4482), (8, .slice p5353 r5351.1.length c5354), (9, .bool r5351.2), (12, .slice p6173 r6171.1.length c6174), (13, .bool r6171.2), (74, .bool false), (75, .slice p6173 r6171.1.length c6174), (76, .slice p5353 r5351.1.length c5354)] w6240 (by kernel_rfl) ?_
                  obtain ⟨r6253, hr6253, hm⟩ := gx_bind hm
                  refine W_call 19 #[.slice p6173 r6171.1.length c6174, .slice p5353 r5351.1.length c5354] (by kernel_rfl) (by kernel_rfl) ?_
                  refine (c_l_eqBalloonS w6240 r6171.1 p6173 c6174 (ho6177.rd M6242 2 (by kernel_rfl) 3 (by kernel_rfl)) r5351.1 p5353 c5354 (ho5357.rd M6242 0 (by kernel_rfl) 1 (by kernel_rfl)) hr6253).mono ?_
                  rintro e_ w6254 ⟨rfl, K6255⟩
                  have M6256 := M6242.call0 K6255
                  refine ⟨_, rfl, ?_⟩
                  refine W_run 3 [(0, .slice p4474 x4472.length c4475), (1, .slice p4479 x4477.length c4480), (2, .int .i64 x4482), (8, .slice p5353 r5351.1.length c5354), (9, .bool r5351.2), (12, .slice p6173 r6171.1.length c6174), (13, .bool r6171.2), (80, .bool (!r6253))] w6254 (by kernel_rfl) ?_
                  rcases gx_bif hm with ⟨hc6257, hm⟩ | ⟨hc6257, hm⟩
                  · refine W_known 80 true (by kernel_rfl) hc6257 ?_
                    refine W_run 4 [(0, .slice p4474 x4472.length c4475), (1, .slice p4479 x4477.length c4480), (2, .int .i64 x4482), (8, .slice p5353 r5351.1.length c5354), (9, .bool r5351.2), (12, .slice p6173 r6171.1.length c6174), (84, .bool true)] w6254 (by kernel_rfl) ?_
                    refine W_nil ?_
                    obtain rfl := Option.some.inj hm
                    exact N_meet fun a ha => ⟨M6256.pick [0, 1, 2, 3] (by kernel_rfl), ha.sub (by kernel_rfl)⟩
                  · refine W_known 80 false (by kernel_rfl) hc6257 ?_
                    refine W_run 4 [(0, .slice p4474 x4472.length c4475), (1, .slice p4479 x4477.length c4480), (2, .int .i64 x4482), (8, .slice p5353 r5351.1.length c5354), (9, .bool r5351.2), (12, .slice p6173 r6171.1.length c6174), (84, .bool (!(r6171.2 == r5351.2)))] w6254 (by kernel_rfl) ?_
                    refine W_nil ?_
                    obtain rfl := Option.some.inj hm
                    exact N_meet fun a ha => ⟨M6256.pick [0, 1, 2, 3] (by kernel_rfl), ha.sub (by kernel_rfl)⟩
              · intro a6260 w6258 ⟨M6259, hS6261⟩
                refine N_use hS6261 ?_
                have hm := hm6251
                refine N_then ?_
                rcases gx_bif hm with ⟨hc6262, hm⟩ | ⟨hc6262, hm⟩
                · refine G_cond_t (b := o6249) hc6262 (by kernel_rfl) ?_
                  refine G_seq ?_
                  refine G_region ?_
                  refine W_run 1 [(6, .bool false)] w6258 (by kernel_rfl) ?_
                  refine W_nil ?_
                  refine N_then ?_
                  refine G_ret ?_
                  refine N_then_ret ?_
                  obtain rfl := Option.some.inj hm
                  refine N_ret [.bool false] (RVs_cons (RV_tmp (by kernel_rfl)) RVs_nil) ?_
                  exact ⟨rfl, M6259.pick [] (by kernel_rfl)⟩
                · refine G_cond_f (b := o6249) hc6262 (by kernel_rfl) ?_
                  refine G_skip ?_
                  refine N_then ?_
                  refine G_seq ?_
                  refine G_region ?_
                  refine W_run 1 [(0, .slice p4474 x4472.length c4475), (1, .slice p4479 x4477.length c4480), (2, .int .i64 x4482), (8, .slice p5353 r5351.1.length c5354), (9, .bool r5351.2), (12, .slice p6173 r6171.1.length c6174), (15, .int .i64 1)] w6258 (by kernel_rfl) ?_
                  refine W_nil ?_
                  refine N_then ?_
                  refine G_seq ?_
                  refine G_region ?_
                  refine W_run 2 [(0, .slice p4474 x4472.length c4475), (1, .slice p4479 x4477.length c4480), (2, .int .i64 x4482), (8, .slice p5353 r5351.1.length c5354), (9, .bool r5351.2), (12, .slice p6173 r6171.1.length c6174), (15, .int .i64 1), (85, .slice p6173 r6171.1.length c6174), (86, .int .i64 1)] w6258 (by kernel_rfl) ?_
                  obtain ⟨r6263, hr6263, hm⟩ := gx_bind hm
                  refine W_call 25 #[.slice p6173 r6171.1.length c6174, .int .i64 1] (by kernel_rfl) (by kernel_rfl) ?_
                  refine (c_l_markBalloonS w6258 r6171.1 p6173 c6174 sg6175 sg6176 ho6177 1 (M6259.hasPick [2, 3]) (M6259.nodupPick [2, 3] (by kernel_rfl)) hr6263).mono ?_
                  rintro e_ w6268 ⟨sg6264, sg6265, rfl, ho6266, hl6267, K6269⟩
                  have M6270 := M6259.callF' [2, 3] [0, 1] (by kernel_rfl) K6269
                  refine ⟨_, rfl, ?_⟩
                  refine W_conv 12 (.slice p6173 r6171.1.length c6174) (.slice p6173 r6263.2.length c6174) (by kernel_rfl) (by first | rw [hl6267] | rw [hl6267]) ?_
                  refine W_conv 85 (.slice p6173 r6171.1.length c6174) (.slice p6173 r6263.2.length c6174) (by kernel_rfl) (by first | rw [hl6267] | rw [hl6267]) ?_
                  refine W_run 1 [(0, .slice p4474 x4472.length c4475), (1, .slice p4479 x4477.length c4480), (2, .int .i64 x4482), (8, .slice p5353 r5351.1.length c5354), (9, .bool r5351.2), (12, .slice p6173 r6263.2.length c6174), (15, .int .i64 r6263.1)] w6268 (by kernel_rfl) ?_
                  refine W_nil ?_
                  refine N_then ?_
                  refine G_seq ?_
                  refine G_region ?_
                  refine W_run 1 [(0, .slice p4474 x4472.length c4475), (1, .slice p4479 x4477.length c4480), (2, .int .i64 x4482), (8, .slice p5353 r5351.1.length c5354), (9, .bool r5351.2), (12, .slice p6173 r6263.2.length c6174), (15, .int .i64 r6263.1), (16, .int .i64 1)] w6268 (by kernel_rfl) ?_
                  refine W_nil ?_
                  refine N_then ?_
                  refine G_seq ?_
                  refine G_region ?_
                  refine W_run 2 [(0, .slice p4474 x4472.length c4475), (1, .slice p4479 x4477.length c4480), (2, .int .i64 x4482), (8, .slice p5353 r5351.1.length c5354), (9, .bool r5351.2), (12, .slice p6173 r6263.2.length c6174), (15, .int .i64 r6263.1), (16, .int .i64 1), (88, .slice p6173 r6263.2.length c6174), (89, .int .i64 1)] w6268 (by kernel_rfl) ?_
                  obtain ⟨r6271, hr6271, hm⟩ := gx_bind hm
                  refine W_call 26 #[.slice p6173 r6263.2.length c6174, .int .i64 1] (by kernel_rfl) (by kernel_rfl) ?_
                  refine (c_l_heldBalloonS w6268 r6263.2 p6173 c6174 (ho6266.rd M6270 2 (by kernel_rfl) 3 (by kernel_rfl)) 1 hr6271).mono ?_
                  rintro e_ w6272 ⟨rfl, K6273⟩
                  have M6274 := M6270.call0 K6273
                  refine ⟨_, rfl, ?_⟩
                  refine W_run 1 [(0, .slice p4474 x4472.length c4475), (1, .slice p4479 x4477.length c4480), (2, .int .i64 x4482), (8, .slice p5353 r5351.1.length c5354), (9, .bool r5351.2), (12, .slice p6173 r6263.2.length c6174), (15, .int .i64 r6263.1), (16, .int .i64 r6271)] w6272 (by kernel_rfl) ?_
                  refine W_nil ?_
                  refine N_then ?_
                  refine G_seq ?_
                  refine G_seq ?_
                  refine G_region ?_
                  refine W_run 2 [(0, .slice p4474 x4472.length c4475), (1, .slice p4479 x4477.length c4480), (2, .int .i64 x4482), (8, .slice p5353 r5351.1.length c5354), (9, .bool r5351.2), (12, .slice p6173 r6263.2.length c6174), (15, .int .i64 r6263.1), (16, .int .i64 r6271), (92, .bool (decide (r6271 < 0)))] w6272 (by kernel_rfl) ?_
                  refine W_nil ?_
                  refine N_then ?_
                  rcases gx_bif hm with ⟨hc6275, hm⟩ | ⟨hc6275, hm⟩
                  · refine G_cond_t (b := (decide (r6271 < 0))) hc6275 (by kernel_rfl) ?_
                    refine G_seq ?_
                    refine G_region ?_
                    refine W_run 1 [(6, .bool false)] w6272 (by kernel_rfl) ?_
                    refine W_nil ?_
                    refine N_then ?_
                    refine G_ret ?_
                    refine N_then_ret ?_
                    obtain rfl := Option.some.inj hm
                    refine N_ret [.bool false] (RVs_cons (RV_tmp (by kernel_rfl)) RVs_nil) ?_
                    exact ⟨rfl, M6274.pick [] (by kernel_rfl)⟩
                  · refine G_cond_f (b := (decide (r6271 < 0))) hc6275 (by kernel_rfl) ?_
                    refine G_skip ?_
                    refine N_then ?_
                    refine G_seq ?_
                    refine G_seq ?_
                    refine G_region ?_
                    refine W_run 3 [(0, .slice p4474 x4472.length c4475), (1, .slice p4479 x4477.length c4480), (2, .int .i64 x4482), (8, .slice p5353 r5351.1.length c5354), (9, .bool r5351.2), (12, .slice p6173 r6263.2.length c6174), (15, .int .i64 r6263.1), (95, .bool (r6271 != r6263.1))] w6272 (by kernel_rfl) ?_
                    refine W_nil ?_
                    refine N_then ?_
                    rcases gx_bif hm with ⟨hc6276, hm⟩ | ⟨hc6276, hm⟩
                    · refine G_cond_t (b := (r6271 != r6263.1)) hc6276 (by kernel_rfl) ?_
                      refine G_seq ?_
                      refine G_region ?_
                      refine W_run 1 [(6, .bool false)] w6272 (by kernel_rfl) ?_
                      refine W_nil ?_
                      refine N_then ?_
                      refine G_ret ?_
                      refine N_then_ret ?_
                      obtain rfl := Option.some.inj hm
                      refine N_ret [.bool false] (RVs_cons (RV_tmp (by kernel_rfl)) RVs_nil) ?_
                      exact ⟨rfl, M6274.pick [] (by kernel_rfl)⟩
                    · refine G_cond_f (b := (r6271 != r6263.1)) hc6276 (by kernel_rfl) ?_
                      refine G_skip ?_
                      refine N_then ?_
                      refine G_seq ?_
                      refine G_region ?_
                      refine W_run 1 [(1, .slice p4479 x4477.length c4480), (2, .int .i64 x4482), (8, .slice p5353 r5351.1.length c5354), (9, .bool r5351.2), (12, .slice p6173 r6263.2.length c6174), (15, .int .i64 r6263.1), (97, .slice p4474 x4472.length c4475)] w6272 (by kernel_rfl) ?_
                      obtain ⟨r6277, hr6277, hm⟩ := gx_bind hm
                      refine W_call 15 #[.slice p4474 x4472.length c4475] (by kernel_rfl) (by kernel_rfl) ?_
                      refine (c_l_toIntS w6272 x4472 p4474 c4475 (h4476.mem0 M6274) hr6277).mono ?_
                      rintro e_ w6283 ⟨p6279, c6280, sg6281, rfl, ho6282, K6284⟩
                      have M6285 := M6274.call K6284
                      refine ⟨_, rfl, ?_⟩
                      refine W_run 1 [(2, .int .i64 x4482), (8, .slice p5353 r5351.1.length c5354), (9, .bool r5351.2), (12, .slice p6173 r6263.2.length c6174), (15, .int .i64 r6263.1), (98, .slice p6279 r6277.length c6280), (99, .slice p4479 x4477.length c4480)] w6283 (by kernel_rfl) ?_
                      obtain ⟨r6286, hr6286, hm⟩ := gx_bind hm
                      refine W_call 16 #[.slice p4479 x4477.length c4480] (by kernel_rfl) (by kernel_rfl) ?_
                      refine (c_l_toBalloonS w6283 x4477 p4479 c4480 (h4481.mem0 M6285) hr6286).mono ?_
                      rintro e_ w6293 ⟨p6288, c6289, sg6290, sg6291, rfl, ho6292, K6294⟩
                      have M6295 := M6285.call K6294
                      refine ⟨_, rfl, ?_⟩
                      refine W_run 1 [(8, .slice p5353 r5351.1.length c5354), (9, .bool r5351.2), (12, .slice p6173 r6263.2.length c6174), (15, .int .i64 r6263.1), (98, .slice p6279 r6277.length c6280), (100, .slice p6288 r6286.length c6289), (101, .int .i64 x4482)] w6293 (by kernel_rfl) ?_
                      obtain ⟨r6296, hr6296, hm⟩ := gx_bind hm
                      refine W_call 31 #[.slice p6279 r6277.length c6280, .slice p6288 r6286.length c6289, .int .i64 x4482] (by kernel_rfl) (by kernel_rfl) ?_
                      refine (c_i_ShareGoals w6293 r6277 p6279 c6280 (ho6282.rd M6295 4 (by kernel_rfl)) r6286 p6288 c6289 (ho6292.rd M6295 5 (by kernel_rfl) 6 (by kernel_rfl)) x4482 hr6296).mono ?_
                      rintro e_ w6303 ⟨p6298, c6299, sg6300, sg6301, rfl, ho6302, K6304⟩
                      have M6305 := M6295.call K6304
                      refine ⟨_, rfl, ?_⟩
                      refine W_run 5 [(8, .slice p5353 r5351.1.length c5354), (9, .bool r5351.2), (12, .slice p6173 r6263.2.length c6174), (15, .int .i64 r6263.1), (17, .slice p6298 r6296.1.length c6299), (18, .bool r6296.2)] w6303 (by kernel_rfl) ?_
                      refine W_nil ?_
                      refine N_then ?_
                      refine G_seq ?_
                      refine G_seq ?_
                      obtain ⟨o6311, ho6312, hm6313⟩ := gx_bind hm
                      refine G_meet (fun a w' => Mem [] w w' [sg6264, sg6265] ∧ Sat Try.f7.ntmps [(12, .slice p6173 r6263.2.length c6174), (15, .int .i64 r6263.1), (113, .bool o6311)] a) ?_ ?_
                      · have hm := ho6312
                        refine G_region ?_
                        refine W_run 2 [(9, .bool r5351.2), (12, .slice p6173 r6263.2.length c6174), (15, .int .i64 r6263.1), (18, .bool r6296.2), (105, .slice p6298 r6296.1.length c6299), (106, .slice p5353 r5351.1.length c5354)] w6303 (by kernel_rfl) ?_
                        obtain ⟨r6314, hr6314, hm⟩ := gx_bind hm
                        refine W_call 19 #[.slice p6298 r6296.1.length c6299, .slice p5353 r5351.1.length c5354] (by kernel_rfl) (by kernel_rfl) ?_
                        refine (c_l_eqBalloonS w6303 r6296.1 p6298 c6299 (ho6302.rd M6305 7 (by kernel_rfl) 8 (by kernel_rfl)) r5351.1 p5353 c5354 (ho5357.rd M6305 0 (by kernel_rfl) 1 (by kernel_rfl)) hr6314).mono ?_
                        rintro e_ w6315 ⟨rfl, K6316⟩
                        have M6317 := M6305.call0 K6316
                        refine ⟨_, rfl, ?_⟩
                        refine W_run 2 [(9, .bool r5351.2), (12, .slice p6173 r6263.2.length c6174), (15, .int .i64 r6263.1), (18, .bool r6296.2), (109, .bool (!r6314))] w6315 (by kernel_rfl) ?_
                        rcases gx_bif hm with ⟨hc6318, hm⟩ | ⟨hc6318, hm⟩
                        · refine W_known 109 true (by kernel_rfl) hc6318 ?_
                          refine W_run 4 [(12, .slice p6173 r6263.2.length c6174), (15, .int .i64 r6263.1), (113, .bool true)] w6315 (by kernel_rfl) ?_
                          refine W_nil ?_
                          obtain rfl := Option.some.inj hm
                          exact N_meet fun a ha => ⟨M6317.pick [2, 3] (by kernel_rfl), ha.sub (by kernel_rfl)⟩
                        · refine W_known 109 false (by kernel_rfl) hc6318 ?_
                          refine W_run 4 [(12, .slice p6173 r6263.2.length c6174), (15, .int .i64 r6263.1), (113, .bool (!(r6296.2 == r5351.2)))] w6315 (by kernel_rfl) ?_
                          refine W_nil ?_
                          obtain rfl := Option.some.inj hm
                          exact N_meet fun a ha => ⟨M6317.pick [2, 3] (by kernel_rfl), ha.sub (by kernel_rfl)⟩
                      · intro a6321 w6319 ⟨M6320, hS6322⟩
                        refine N_use hS6322 ?_
                        have hm := hm6313
                        refine N_then ?_
                        rcases gx_bif hm with ⟨hc6323, hm⟩ | ⟨hc6323, hm⟩
                        · refine G_cond_t (b := o6311) hc6323 (by kernel_rfl) ?_
                          refine G_seq ?_
                          refine G_region ?_
                          refine W_run 1 [(6, .bool false)] w6319 (by kernel_rfl) ?_
                          refine W_nil ?_
                          refine N_then ?_
                          refine G_ret ?_
                          refine N_then_ret ?_
                          obtain rfl := Option.some.inj hm
                          refine N_ret [.bool false] (RVs_cons (RV_tmp (by kernel_rfl)) RVs_nil) ?_
                          exact ⟨rfl, M6320.pick [] (by kernel_rfl)⟩
                        · refine G_cond_f (b := o6311) hc6323 (by kernel_rfl) ?_
                          refine G_skip ?_
                          refine N_then ?_
                          refine G_seq ?_
                          refine G_region ?_
                          refine W_run 1 [(12, .slice p6173 r6263.2.length c6174), (15, .int .i64 r6263.1), (16, .int .i64 1)] w6319 (by kernel_rfl) ?_
                          refine W_nil ?_
                          refine N_then ?_
                          refine G_seq ?_
                          refine G_region ?_
                          refine W_run 2 [(15, .int .i64 r6263.1), (16, .int .i64 1), (114, .slice p6173 r6263.2.length c6174), (115, .int .i64 1)] w6319 (by kernel_rfl) ?_
                          obtain ⟨r6324, hr6324, hm⟩ := gx_bind hm
                          refine W_call 26 #[.slice p6173 r6263.2.length c6174, .int .i64 1] (by kernel_rfl) (by kernel_rfl) ?_
                          refine (c_l_heldBalloonS w6319 r6263.2 p6173 c6174 (ho6266.rd M6320 0 (by kernel_rfl) 1 (by kernel_rfl)) 1 hr6324).mono ?_
                          rintro e_ w6325 ⟨rfl, K6326⟩
                          have M6327 := M6320.call0 K6326
                          refine ⟨_, rfl, ?_⟩
                          refine W_run 1 [(15, .int .i64 r6263.1), (16, .int .i64 r6324)] w6325 (by kernel_rfl) ?_
                          refine W_nil ?_
                          refine N_then ?_
                          refine G_seq ?_
                          refine G_seq ?_
                          refine G_region ?_
                          refine W_run 2 [(15, .int .i64 r6263.1), (16, .int .i64 r6324), (118, .bool (decide (r6324 < 0)))] w6325 (by kernel_rfl) ?_
                          refine W_nil ?_
                          refine N_then ?_
                          rcases gx_bif hm with ⟨hc6328, hm⟩ | ⟨hc6328, hm⟩
                          · refine G_cond_t (b := (decide (r6324 < 0))) hc6328 (by kernel_rfl) ?_
                            refine G_seq ?_
                            refine G_region ?_
                            refine W_run 1 [(6, .bool false)] w6325 (by kernel_rfl) ?_
                            refine W_nil ?_
                            refine N_then ?_
                            refine G_ret ?_
                            refine N_then_ret ?_
                            obtain rfl := Option.some.inj hm
                            refine N_ret [.bool false] (RVs_cons (RV_tmp (by kernel_rfl)) RVs_nil) ?_
                            exact ⟨rfl, M6327.pick [] (by kernel_rfl)⟩
                          · refine G_cond_f (b := (decide (r6324 < 0))) hc6328 (by kernel_rfl) ?_
                            refine G_skip ?_
                            refine N_then ?_
                            refine G_seq ?_
                            refine G_seq ?_
                            refine G_region ?_
                            refine W_run 3 [(121, .bool (r6324 != r6263.1))] w6325 (by kernel_rfl) ?_
                            refine W_nil ?_
                            refine N_then ?_
                            rcases gx_bif hm with ⟨hc6329, hm⟩ | ⟨hc6329, hm⟩
                            · refine G_cond_t (b := (r6324 != r6263.1)) hc6329 (by kernel_rfl) ?_
                              refine G_seq ?_
                              refine G_region ?_
                              refine W_run 1 [(6, .bool false)] w6325 (by kernel_rfl) ?_
                              refine W_nil ?_
                              refine N_then ?_
                              refine G_ret ?_
                              refine N_then_ret ?_
                              obtain rfl := Option.some.inj hm
                              refine N_ret [.bool false] (RVs_cons (RV_tmp (by kernel_rfl)) RVs_nil) ?_
                              exact ⟨rfl, M6327.pick [] (by kernel_rfl)⟩
                            · refine G_cond_f (b := (r6324 != r6263.1)) hc6329 (by kernel_rfl) ?_
                              refine G_skip ?_
                              refine N_then ?_
                              refine G_seq ?_
                              refine G_region ?_
                              refine W_run 1 [(6, .bool true)] w6325 (by kernel_rfl) ?_
                              refine W_nil ?_
                              refine N_then ?_
                              refine G_ret ?_
                              obtain rfl := Option.some.inj hm
                              refine N_ret [.bool true] (RVs_cons (RV_tmp (by kernel_rfl)) RVs_nil) ?_
                              exact ⟨rfl, M6327.pick [] (by kernel_rfl)⟩
end Go.Proofs.Ytlfligjpmodefaa
