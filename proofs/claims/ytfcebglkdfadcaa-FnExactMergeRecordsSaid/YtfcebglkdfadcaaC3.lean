/- The walks, printed by program: whenever the model gives r, the call returns r. Part 3. -/
import Derived.Test.YtfcebglkdfadcaaM
import Derived.Test.YtfcebglkdfadcaaProg
import Derived.Test.YtfcebglkdfadcaaSh
import Derived.Test.YtfcebglkdfadcaaC2
set_option linter.unusedVariables false
set_option maxRecDepth 100000
set_option maxHeartbeats 4000000
namespace Go.Proofs.Ytfcebglkdfadcaa
open Go.Gx
theorem c_slices_Concat_83 (w : World) (x3549 : List (List Event)) (p3551 : Option Addr) (c3552 : Nat) (h3553 : rdD (deepL encEvent) w x3549 p3551 c3552) {r : (List Event)} (hm : M.slices_Concat_83 x3549 = some r) :
    Calls Try.prog 83 #[.slice p3551 x3549.length c3552] w fun e w' => ∃ (p3555 : Option Addr) (c3556 : Nat) (sg3557 : Seg), e = .returned (.slice p3555 r.length c3556) ∧ ownS encEvent r p3555 c3556 sg3557 ∧ Mem [] w w' [sg3557] := by
  unfold M.slices_Concat_83 at hm
  refine C_enter Try.func83 rfl (by kernel_rfl) ?_
  have M0 := Mem.refl [] w
  refine G_seq ?_
  refine G_region ?_
  refine W_run 1 [(0, .slice p3551 x3549.length c3552)] w (by kernel_rfl) ?_
  refine W_nil ?_
  refine N_then ?_
  refine G_seq ?_
  refine G_region ?_
  refine W_run 1 [(0, .slice p3551 x3549.length c3552), (3, .int .i64 0)] w (by kernel_rfl) ?_
  refine W_nil ?_
  refine N_then ?_
  refine G_seq ?_
  refine G_seq ?_
  refine G_region ?_
  refine W_run 3 [(0, .slice p3551 x3549.length c3552), (3, .int .i64 0), (9, .slice p3551 x3549.length c3552), (10, .int .i64 (x3549.length : Int)), (11, .int .i64 0)] w (by kernel_rfl) ?_
  refine W_nil ?_
  refine N_then ?_
  obtain ⟨out3586, hw3587, hmo3588⟩ := gx_bind hm
  refine G_meet (fun a w' => Mem [] w w' [] ∧ Sat Try.f83.ntmps [(0, .slice p3551 x3549.length c3552), (3, .int .i64 out3586)] a) ?_ ?_
  · refine G_block ?_
    refine G_while (σ := Int × Int) (ρ := Int) (fun s3579 a w' => Mem [] w w' [] ∧ Sat Try.f83.ntmps [(0, .slice p3551 x3549.length c3552), (3, .int .i64 s3579.1), (9, .slice p3551 x3549.length c3552), (10, .int .i64 (x3549.length : Int)), (11, .int .i64 s3579.2)] a) hw3587 (fun a ha => ⟨M0.pick [] (by kernel_rfl), ha.sub (by kernel_rfl)⟩) ?_
    clear hm
    intro s3579 x3580 hm hout3581 a3582 w3583 ⟨M3584, hS3585⟩
    refine G_use hS3585 ?_
    refine G_seq ?_
    refine G_region ?_
    refine W_run 1 [(0, .slice p3551 x3549.length c3552), (3, .int .i64 s3579.1), (9, .slice p3551 x3549.length c3552), (10, .int .i64 (x3549.length : Int)), (11, .int .i64 s3579.2), (12, .bool (decide (s3579.2 < (x3549.length : Int))))] w3583 (by kernel_rfl) ?_
    refine W_nil ?_
    refine N_then ?_
    refine G_seq ?_
    rcases gx_bif hm with ⟨hc3590, hm⟩ | ⟨hc3590, hm⟩
    · refine G_cond_t (b := (decide (s3579.2 < (x3549.length : Int)))) hc3590 (by kernel_rfl) ?_
      refine G_skip ?_
      refine N_then ?_
      refine G_seq ?_
      refine G_block ?_
      refine G_seq ?_
      refine G_region ?_
      obtain ⟨y3591, hy3591, hm⟩ := gx_bind hm
      obtain ⟨zs3592, hz3593, hr3594, hi3595⟩ := id h3553
      obtain ⟨g3596, hg3597⟩ := gxIdx_fst hz3593 hy3591
      refine W_val (elemP p3551 (s3579.2.toNat * 1)) w3583 (by kernel_rfl) (E_index (E := (deepL encEvent).E) _ _ _ x3549.length c3552 .i64 s3579.2 1 (y := (y3591, g3596)) rfl (by kernel_rfl) (by kernel_rfl) (by kernel_rfl) (hr3594.mem0 M3584) (len_fst hz3593) hg3597) ?_
      refine W_val (.slice ((g3596 0).1) y3591.length ((g3596 0).2)) w3583 (by kernel_rfl) (E_loadE (E := (deepL encEvent).E) _ _ false 1 s3579.2 0 (s3579.2.toNat * 1) (y3591, g3596) (.slice ((g3596 0).1) y3591.length ((g3596 0).2)) rfl (by kernel_rfl) (by kernel_rfl) (by kernel_rfl) (hr3594.mem0 M3584) hg3597 rfl) ?_
      refine W_run 1 [(0, .slice p3551 x3549.length c3552), (3, .int .i64 s3579.1), (5, .slice ((g3596 0).1) y3591.length ((g3596 0).2)), (9, .slice p3551 x3549.length c3552), (10, .int .i64 (x3549.length : Int)), (11, .int .i64 s3579.2)] w3583 (by kernel_rfl) ?_
      refine W_nil ?_
      refine N_then ?_
      refine G_seq ?_
      refine G_region ?_
      refine W_run 5 [(0, .slice p3551 x3549.length c3552), (3, .int .i64 (w64 (s3579.1 + (y3591.length : Int)))), (9, .slice p3551 x3549.length c3552), (10, .int .i64 (x3549.length : Int)), (11, .int .i64 s3579.2)] w3583 (by kernel_rfl) ?_
      refine W_nil ?_
      refine N_then ?_
      refine G_seq ?_
      refine G_region ?_
      refine W_run 2 [(0, .slice p3551 x3549.length c3552), (3, .int .i64 (w64 (s3579.1 + (y3591.length : Int)))), (9, .slice p3551 x3549.length c3552), (10, .int .i64 (x3549.length : Int)), (11, .int .i64 s3579.2), (20, .bool (decide ((w64 (s3579.1 + (y3591.length : Int))) < 0)))] w3583 (by kernel_rfl) ?_
      refine W_nil ?_
      refine N_then ?_
      rcases gx_bif hm with ⟨hc3599, hm⟩ | ⟨hc3599, hm⟩
      · refine G_cond_t (b := (decide ((w64 (s3579.1 + (y3591.length : Int))) < 0))) hc3599 (by kernel_rfl) ?_
        cases hm
      refine G_cond_f (b := (decide ((w64 (s3579.1 + (y3591.length : Int))) < 0))) hc3599 (by kernel_rfl) ?_
      refine G_skip ?_
      refine N_block ?_
      refine N_then ?_
      refine G_region ?_
      refine W_run 2 [(0, .slice p3551 x3549.length c3552), (3, .int .i64 (w64 (s3579.1 + (y3591.length : Int)))), (9, .slice p3551 x3549.length c3552), (10, .int .i64 (x3549.length : Int)), (11, .int .i64 (w64 (s3579.2 + 1)))] w3583 (by kernel_rfl) ?_
      refine W_nil ?_
      obtain rfl := Option.some.inj hm
      exact N_loop fun a ha => ⟨_, rfl, M3584.pick [] (by kernel_rfl), ha.sub (by kernel_rfl)⟩
    refine G_cond_f (b := (decide (s3579.2 < (x3549.length : Int)))) hc3590 (by kernel_rfl) ?_
    refine G_exit ?_
    refine N_then_exit ?_
    refine N_then_exit ?_
    refine N_block_eq ?_
    obtain rfl := Option.some.inj hm
    obtain rfl := hout3581 _ rfl
    exact N_meet fun a ha => ⟨M3584.pick [] (by kernel_rfl), ha.sub (by kernel_rfl)⟩
  intro a3600 w3601 ⟨M3602, hS3603⟩
  refine N_use hS3603 ?_
  have hm := hmo3588
  refine N_then ?_
  refine G_seq ?_
  refine G_region ?_
  refine W_run 1 [(0, .slice p3551 x3549.length c3552), (23, .int .i64 out3586)] w3601 (by kernel_rfl) ?_
  obtain ⟨r3611, hr3611, hm⟩ := gx_bind hm
  refine W_call 91 #[.slice none 0 0, .int .i64 out3586] (by kernel_rfl) (by kernel_rfl) ?_
  refine (c_slices_Grow_91__n0 w3601 out3586 hr3611).mono ?_
  rintro e_ w3617 ⟨p3613, c3614, sg3615, rfl, ho3616, K3618⟩
  have M3619 := M3602.call K3618
  refine ⟨_, rfl, ?_⟩
  refine W_run 1 [(0, .slice p3551 x3549.length c3552), (6, .slice p3613 r3611.length c3614)] w3617 (by kernel_rfl) ?_
  refine W_nil ?_
  refine N_then ?_
  refine G_seq ?_
  refine G_seq ?_
  refine G_region ?_
  refine W_run 3 [(6, .slice p3613 r3611.length c3614), (25, .slice p3551 x3549.length c3552), (26, .int .i64 (x3549.length : Int)), (27, .int .i64 0)] w3617 (by kernel_rfl) ?_
  refine W_nil ?_
  refine N_then ?_
  obtain ⟨out3666, hw3667, hmo3668⟩ := gx_bind hm
  refine G_meet (fun a w' => ∃ (p3675 : Option Addr), ∃ (c3676 : Nat), ∃ (sg3677 : Seg), ownS encEvent out3666 p3675 c3676 sg3677 ∧ Mem [] w w' [sg3677] ∧ Sat Try.f83.ntmps [(6, .slice p3675 out3666.length c3676)] a) ?_ ?_
  · refine G_block ?_
    refine G_while (σ := List Event × Int) (ρ := List Event) (fun s3659 a w' => ∃ (p3669 : Option Addr), ∃ (c3670 : Nat), ∃ (sg3671 : Seg), ownS encEvent s3659.1 p3669 c3670 sg3671 ∧ Mem [] w w' [sg3671] ∧ Sat Try.f83.ntmps [(6, .slice p3669 s3659.1.length c3670), (25, .slice p3551 x3549.length c3552), (26, .int .i64 (x3549.length : Int)), (27, .int .i64 s3659.2)] a) hw3667 (fun a ha => ⟨p3613, c3614, sg3615, ho3616, M3619.pick [0] (by kernel_rfl), ha.sub (by kernel_rfl)⟩) ?_
    clear hm
    intro s3659 x3660 hm hout3661 a3662 w3663 ⟨p3669, c3670, sg3671, ho3672, M3664, hS3665⟩
    refine G_use hS3665 ?_
    refine G_seq ?_
    refine G_region ?_
    refine W_run 1 [(6, .slice p3669 s3659.1.length c3670), (25, .slice p3551 x3549.length c3552), (26, .int .i64 (x3549.length : Int)), (27, .int .i64 s3659.2), (28, .bool (decide (s3659.2 < (x3549.length : Int))))] w3663 (by kernel_rfl) ?_
    refine W_nil ?_
    refine N_then ?_
    refine G_seq ?_
    rcases gx_bif hm with ⟨hc3680, hm⟩ | ⟨hc3680, hm⟩
    · refine G_cond_t (b := (decide (s3659.2 < (x3549.length : Int)))) hc3680 (by kernel_rfl) ?_
      refine G_skip ?_
      refine N_then ?_
      refine G_seq ?_
      refine G_block ?_
      refine G_seq ?_
      refine G_region ?_
      obtain ⟨y3681, hy3681, hm⟩ := gx_bind hm
      obtain ⟨zs3682, hz3683, hr3684, hi3685⟩ := id h3553
      obtain ⟨g3686, hg3687⟩ := gxIdx_fst hz3683 hy3681
      refine W_val (elemP p3551 (s3659.2.toNat * 1)) w3663 (by kernel_rfl) (E_index (E := (deepL encEvent).E) _ _ _ x3549.length c3552 .i64 s3659.2 1 (y := (y3681, g3686)) rfl (by kernel_rfl) (by kernel_rfl) (by kernel_rfl) (hr3684.mem0 M3664) (len_fst hz3683) hg3687) ?_
      refine W_val (.slice ((g3686 0).1) y3681.length ((g3686 0).2)) w3663 (by kernel_rfl) (E_loadE (E := (deepL encEvent).E) _ _ false 1 s3659.2 0 (s3659.2.toNat * 1) (y3681, g3686) (.slice ((g3686 0).1) y3681.length ((g3686 0).2)) rfl (by kernel_rfl) (by kernel_rfl) (by kernel_rfl) (hr3684.mem0 M3664) hg3687 rfl) ?_
      refine W_run 1 [(6, .slice p3669 s3659.1.length c3670), (8, .slice ((g3686 0).1) y3681.length ((g3686 0).2)), (25, .slice p3551 x3549.length c3552), (26, .int .i64 (x3549.length : Int)), (27, .int .i64 s3659.2)] w3663 (by kernel_rfl) ?_
      refine W_nil ?_
      refine N_then ?_
      refine G_region ?_
      refine W_run 2 [(6, .slice p3669 s3659.1.length c3670), (25, .slice p3551 x3549.length c3552), (26, .int .i64 (x3549.length : Int)), (27, .int .i64 s3659.2), (31, .slice p3669 s3659.1.length c3670), (32, .slice ((g3686 0).1) y3681.length ((g3686 0).2))] w3663 (by kernel_rfl) ?_
      obtain ⟨ap3689, hap3689, hm⟩ := gx_bind hm
      refine W_append (E := encEvent) _ _ _ 40 [.int .i64 0, .int .i64 0, .string ByteArray.empty, .int .i64 0] 0 ((g3686 0).2) M3664 ho3672 (by kernel_rfl) (by kernel_rfl) (by kernel_rfl) rfl (by kernel_rfl) (by kernel_rfl) (by kernel_rfl) (by kernel_rfl) (by kernel_rfl) (by kernel_rfl) ((hi3685.mem0 M3664).at_ hg3687 0 ⟨Event, encEvent, y3681, (g3686 0).1, (g3686 0).2⟩ (by kernel_rfl)) hap3689 ?_
      intro p3690 c3691 sg3692 w3693 ho3694 M3695
      refine W_run 1 [(6, .slice p3690 ap3689.length c3691), (25, .slice p3551 x3549.length c3552), (26, .int .i64 (x3549.length : Int)), (27, .int .i64 s3659.2)] w3693 (by kernel_rfl) ?_
      refine W_nil ?_
      refine N_block ?_
      refine N_then ?_
      refine G_region ?_
      refine W_run 2 [(6, .slice p3690 ap3689.length c3691), (25, .slice p3551 x3549.length c3552), (26, .int .i64 (x3549.length : Int)), (27, .int .i64 (w64 (s3659.2 + 1)))] w3693 (by kernel_rfl) ?_
      refine W_nil ?_
      obtain rfl := Option.some.inj hm
      exact N_loop fun a ha => ⟨_, rfl, p3690, c3691, sg3692, ho3694, M3695.pick [0] (by kernel_rfl), ha.sub (by kernel_rfl)⟩
    refine G_cond_f (b := (decide (s3659.2 < (x3549.length : Int)))) hc3680 (by kernel_rfl) ?_
    refine G_exit ?_
    refine N_then_exit ?_
    refine N_then_exit ?_
    refine N_block_eq ?_
    obtain rfl := Option.some.inj hm
    obtain rfl := hout3661 _ rfl
    exact N_meet fun a ha => ⟨p3669, c3670, sg3671, ho3672, M3664.pick [0] (by kernel_rfl), ha.sub (by kernel_rfl)⟩
  intro a3697 w3698 ⟨p3675, c3676, sg3677, ho3678, M3699, hS3700⟩
  refine N_use hS3700 ?_
  have hm := hmo3668
  refine N_then ?_
  refine G_seq ?_
  refine G_region ?_
  refine W_run 2 [(2, .slice p3675 out3666.length c3676)] w3698 (by kernel_rfl) ?_
  refine W_nil ?_
  refine N_then ?_
  refine G_ret ?_
  obtain rfl := Option.some.inj hm
  refine N_ret [.slice p3675 out3666.length c3676] (RVs_cons (RV_tmp (by kernel_rfl)) RVs_nil) ?_
  exact ⟨p3675, c3676, sg3677, rfl, ho3678, M3699.pick [0] (by kernel_rfl)⟩
theorem c_cmp_isNaN_93 (w : World) (x3745 : Int) {r : Bool} (hm : M.cmp_isNaN_93 x3745 = some r) :
    Calls Try.prog 93 #[.int .i64 x3745] w fun e w' => e = .returned (.bool r) ∧ Mem [] w w' [] := by
  unfold M.cmp_isNaN_93 at hm
  refine C_enter Try.func93 rfl (by kernel_rfl) ?_
  have M0 := Mem.refl [] w
  refine G_seq ?_
  refine G_region ?_
  refine W_run 1 [(0, .int .i64 x3745)] w (by kernel_rfl) ?_
  refine W_nil ?_
  refine N_then ?_
  refine G_seq ?_
  refine G_region ?_
  refine W_run 4 [(2, .bool (x3745 != x3745))] w (by kernel_rfl) ?_
  refine W_nil ?_
  refine N_then ?_
  refine G_ret ?_
  obtain rfl := Option.some.inj hm
  refine N_ret [.bool (x3745 != x3745)] (RVs_cons (RV_tmp (by kernel_rfl)) RVs_nil) ?_
  exact ⟨rfl, M0.pick [] (by kernel_rfl)⟩
theorem c_cmp_Compare_86 (w : World) (x3743 : Int) (x3744 : Int) {r : Int} (hm : M.cmp_Compare_86 x3743 x3744 = some r) :
    Calls Try.prog 86 #[.int .i64 x3743, .int .i64 x3744] w fun e w' => e = .returned (.int .i64 r) ∧ Mem [] w w' [] := by
  unfold M.cmp_Compare_86 at hm
  refine C_enter Try.func86 rfl (by kernel_rfl) ?_
  have M0 := Mem.refl [] w
  refine G_seq ?_
  refine G_region ?_
  refine W_run 1 [(0, .int .i64 x3743), (1, .int .i64 x3744)] w (by kernel_rfl) ?_
  refine W_nil ?_
  refine N_then ?_
  refine G_seq ?_
  refine G_region ?_
  refine W_run 1 [(0, .int .i64 x3743), (1, .int .i64 x3744), (7, .int .i64 x3743)] w (by kernel_rfl) ?_
  obtain ⟨r3746, hr3746, hm⟩ := gx_bind hm
  refine W_call 93 #[.int .i64 x3743] (by kernel_rfl) (by kernel_rfl) ?_
  refine (c_cmp_isNaN_93 w x3743 hr3746).mono ?_
  rintro e_ w3747 ⟨rfl, K3748⟩
  have M3749 := M0.call0 K3748
  refine ⟨_, rfl, ?_⟩
  refine W_run 1 [(0, .int .i64 x3743), (1, .int .i64 x3744), (5, .bool r3746)] w3747 (by kernel_rfl) ?_
  refine W_nil ?_
  refine N_then ?_
  refine G_seq ?_
  refine G_region ?_
  refine W_run 1 [(0, .int .i64 x3743), (1, .int .i64 x3744), (5, .bool r3746), (9, .int .i64 x3744)] w3747 (by kernel_rfl) ?_
  obtain ⟨r3750, hr3750, hm⟩ := gx_bind hm
  refine W_call 93 #[.int .i64 x3744] (by kernel_rfl) (by kernel_rfl) ?_
  refine (c_cmp_isNaN_93 w3747 x3744 hr3750).mono ?_
  rintro e_ w3751 ⟨rfl, K3752⟩
  have M3753 := M3749.call0 K3752
  refine ⟨_, rfl, ?_⟩
  refine W_run 1 [(0, .int .i64 x3743), (1, .int .i64 x3744), (5, .bool r3746), (6, .bool r3750)] w3751 (by kernel_rfl) ?_
  refine W_nil ?_
  refine N_then ?_
  refine G_seq ?_
  refine G_seq ?_
  refine G_region ?_
  refine W_run 1 [(0, .int .i64 x3743), (1, .int .i64 x3744), (6, .bool r3750), (11, .bool r3746)] w3751 (by kernel_rfl) ?_
  refine W_nil ?_
  refine N_then ?_
  rcases gx_bif hm with ⟨hc3754, hm⟩ | ⟨hc3754, hm⟩
  · refine G_cond_t (b := r3746) hc3754 (by kernel_rfl) ?_
    refine G_seq ?_
    refine G_seq ?_
    refine G_region ?_
    refine W_run 1 [(12, .bool r3750)] w3751 (by kernel_rfl) ?_
    refine W_nil ?_
    refine N_then ?_
    rcases gx_bif hm with ⟨hc3755, hm⟩ | ⟨hc3755, hm⟩
    · refine G_cond_t (b := r3750) hc3755 (by kernel_rfl) ?_
      refine G_seq ?_
      refine G_region ?_
      refine W_run 1 [(4, .int .i64 0)] w3751 (by kernel_rfl) ?_
      refine W_nil ?_
      refine N_then ?_
      refine G_ret ?_
      refine N_then_ret ?_
      refine N_then_ret ?_
      obtain rfl := Option.some.inj hm
      refine N_ret [.int .i64 0] (RVs_cons (RV_tmp (by kernel_rfl)) RVs_nil) ?_
      exact ⟨rfl, M3753.pick [] (by kernel_rfl)⟩
    refine G_cond_f (b := r3750) hc3755 (by kernel_rfl) ?_
    refine G_skip ?_
    refine N_then ?_
    refine G_seq ?_
    refine G_region ?_
    refine W_run 1 [(4, .int .i64 (-1))] w3751 (by kernel_rfl) ?_
    refine W_nil ?_
    refine N_then ?_
    refine G_ret ?_
    refine N_then_ret ?_
    obtain rfl := Option.some.inj hm
    refine N_ret [.int .i64 (-1)] (RVs_cons (RV_tmp (by kernel_rfl)) RVs_nil) ?_
    exact ⟨rfl, M3753.pick [] (by kernel_rfl)⟩
  refine G_cond_f (b := r3746) hc3754 (by kernel_rfl) ?_
  refine G_skip ?_
  refine N_then ?_
  refine G_seq ?_
  refine G_seq ?_
  refine G_region ?_
  refine W_run 1 [(0, .int .i64 x3743), (1, .int .i64 x3744), (13, .bool r3750)] w3751 (by kernel_rfl) ?_
  refine W_nil ?_
  refine N_then ?_
  rcases gx_bif hm with ⟨hc3756, hm⟩ | ⟨hc3756, hm⟩
  · refine G_cond_t (b := r3750) hc3756 (by kernel_rfl) ?_
    refine G_seq ?_
    refine G_region ?_
    refine W_run 1 [(4, .int .i64 1)] w3751 (by kernel_rfl) ?_
    refine W_nil ?_
    refine N_then ?_
    refine G_ret ?_
    refine N_then_ret ?_
    obtain rfl := Option.some.inj hm
    refine N_ret [.int .i64 1] (RVs_cons (RV_tmp (by kernel_rfl)) RVs_nil) ?_
    exact ⟨rfl, M3753.pick [] (by kernel_rfl)⟩
  refine G_cond_f (b := r3750) hc3756 (by kernel_rfl) ?_
  refine G_skip ?_
  refine N_then ?_
  refine G_seq ?_
  refine G_seq ?_
  refine G_region ?_
  refine W_run 3 [(0, .int .i64 x3743), (1, .int .i64 x3744), (16, .bool (decide (x3743 < x3744)))] w3751 (by kernel_rfl) ?_
  refine W_nil ?_
  refine N_then ?_
  rcases gx_bif hm with ⟨hc3757, hm⟩ | ⟨hc3757, hm⟩
  · refine G_cond_t (b := (decide (x3743 < x3744))) hc3757 (by kernel_rfl) ?_
    refine G_seq ?_
    refine G_region ?_
    refine W_run 1 [(4, .int .i64 (-1))] w3751 (by kernel_rfl) ?_
    refine W_nil ?_
    refine N_then ?_
    refine G_ret ?_
    refine N_then_ret ?_
    obtain rfl := Option.some.inj hm
    refine N_ret [.int .i64 (-1)] (RVs_cons (RV_tmp (by kernel_rfl)) RVs_nil) ?_
    exact ⟨rfl, M3753.pick [] (by kernel_rfl)⟩
  refine G_cond_f (b := (decide (x3743 < x3744))) hc3757 (by kernel_rfl) ?_
  refine G_skip ?_
  refine N_then ?_
  refine G_seq ?_
  refine G_seq ?_
  refine G_region ?_
  refine W_run 3 [(19, .bool (decide (x3743 > x3744)))] w3751 (by kernel_rfl) ?_
  refine W_nil ?_
  refine N_then ?_
  rcases gx_bif hm with ⟨hc3758, hm⟩ | ⟨hc3758, hm⟩
  · refine G_cond_t (b := (decide (x3743 > x3744))) hc3758 (by kernel_rfl) ?_
    refine G_seq ?_
    refine G_region ?_
    refine W_run 1 [(4, .int .i64 1)] w3751 (by kernel_rfl) ?_
    refine W_nil ?_
    refine N_then ?_
    refine G_ret ?_
    refine N_then_ret ?_
    obtain rfl := Option.some.inj hm
    refine N_ret [.int .i64 1] (RVs_cons (RV_tmp (by kernel_rfl)) RVs_nil) ?_
    exact ⟨rfl, M3753.pick [] (by kernel_rfl)⟩
  refine G_cond_f (b := (decide (x3743 > x3744))) hc3758 (by kernel_rfl) ?_
  refine G_skip ?_
  refine N_then ?_
  refine G_seq ?_
  refine G_region ?_
  refine W_run 1 [(4, .int .i64 0)] w3751 (by kernel_rfl) ?_
  refine W_nil ?_
  refine N_then ?_
  refine G_ret ?_
  obtain rfl := Option.some.inj hm
  refine N_ret [.int .i64 0] (RVs_cons (RV_tmp (by kernel_rfl)) RVs_nil) ?_
  exact ⟨rfl, M3753.pick [] (by kernel_rfl)⟩
theorem c_i_merged_1 (w : World) (x3733 : Event) (x3734 : Event) {r : Int} (hm : M.i_merged_1 x3733 x3734 = some r) :
    Calls Try.prog 85 #[.agg #[.int .i64 x3733.Tick, .int .i64 x3733.Guest, .string x3733.Kind, .int .i64 x3733.Value], .agg #[.int .i64 x3734.Tick, .int .i64 x3734.Guest, .string x3734.Kind, .int .i64 x3734.Value]] w fun e w' => e = .returned (.int .i64 r) ∧ Mem [] w w' [] := by
  unfold M.i_merged_1 at hm
  refine C_enter Try.func85 rfl (by kernel_rfl) ?_
  have M0 := Mem.refl [] w
  refine G_seq ?_
  refine G_region ?_
  refine W_new (fun b => .pointer (some ⟨b, 0, none⟩)) (.cells ⟨[.int .i64 x3733.Tick, .int .i64 x3733.Guest, .string x3733.Kind, .int .i64 x3733.Value]⟩ 26 (0, 0)) M0 rfl (by kernel_rfl) (by kernel_rfl) ?_
  intro b3736 w3737 M3738
  refine W_new (fun b => .pointer (some ⟨b, 0, none⟩)) (.cells ⟨[.int .i64 x3734.Tick, .int .i64 x3734.Guest, .string x3734.Kind, .int .i64 x3734.Value]⟩ 26 (0, 0)) M3738 rfl (by kernel_rfl) (by kernel_rfl) ?_
  intro b3740 w3741 M3742
  refine W_run 1 [(2, .pointer (some ⟨b3736, 0, none⟩)), (3, .pointer (some ⟨b3740, 0, none⟩))] w3741 (by kernel_rfl) ?_
  refine W_nil ?_
  refine N_then ?_
  refine G_seq ?_
  refine G_region ?_
  refine W_run 1 [(3, .pointer (some ⟨b3740, 0, none⟩)), (5, .pointer (some ⟨b3736, 0, none⟩))] w3741 (by kernel_rfl) ?_
  refine W_val (.int .i64 x3733.Tick) w3741 (by kernel_rfl) (E_load (e := 26) (fr := (0, 0)) _ _ false 1 b3736 0 [.int .i64 x3733.Tick, .int .i64 x3733.Guest, .string x3733.Kind, .int .i64 x3733.Value] (.int .i64 x3733.Tick) rfl (by kernel_rfl) (by kernel_rfl) (by kernel_rfl) (M3742.blk 0 (b := b3736) (o := .cells ⟨[.int .i64 x3733.Tick, .int .i64 x3733.Guest, .string x3733.Kind, .int .i64 x3733.Value]⟩ 26 (0, 0)) (by kernel_rfl))) ?_
  refine W_run 1 [(6, .int .i64 x3733.Tick), (7, .pointer (some ⟨b3740, 0, none⟩))] w3741 (by kernel_rfl) ?_
  refine W_val (.int .i64 x3734.Tick) w3741 (by kernel_rfl) (E_load (e := 26) (fr := (0, 0)) _ _ false 1 b3740 0 [.int .i64 x3734.Tick, .int .i64 x3734.Guest, .string x3734.Kind, .int .i64 x3734.Value] (.int .i64 x3734.Tick) rfl (by kernel_rfl) (by kernel_rfl) (by kernel_rfl) (M3742.blk 1 (b := b3740) (o := .cells ⟨[.int .i64 x3734.Tick, .int .i64 x3734.Guest, .string x3734.Kind, .int .i64 x3734.Value]⟩ 26 (0, 0)) (by kernel_rfl))) ?_
  obtain ⟨r3759, hr3759, hm⟩ := gx_bind hm
  refine W_call 86 #[.int .i64 x3733.Tick, .int .i64 x3734.Tick] (by kernel_rfl) (by kernel_rfl) ?_
  refine (c_cmp_Compare_86 w3741 x3733.Tick x3734.Tick hr3759).mono ?_
  rintro e_ w3760 ⟨rfl, K3761⟩
  have M3762 := M3742.call0 K3761
  refine ⟨_, rfl, ?_⟩
  refine W_run 1 [(4, .int .i64 r3759)] w3760 (by kernel_rfl) ?_
  refine W_nil ?_
  refine N_then ?_
  refine G_ret ?_
  obtain rfl := Option.some.inj hm
  refine N_ret [.int .i64 r3759] (RVs_cons (RV_tmp (by kernel_rfl)) RVs_nil) ?_
  exact ⟨rfl, M3762.pick [] (by kernel_rfl)⟩
theorem c_slices_insertionSortCmpFunc_105__i_merged_1 (w : World) (x3795 : List Event) (p3797 : Option Addr) (c3798 : Nat) (sg3799 : Seg) (ho3800 : ownS encEvent x3795 p3797 c3798 sg3799) (x3801 : Int) (x3802 : Int) (hA : ∀ q ∈ List.flatten [sg3799], w.heap[q.1]? = some q.2) (hN : (idsOf [sg3799]).Nodup) {r : (List Event)} (hm : M.slices_insertionSortCmpFunc_105__i_merged_1 x3795 x3801 x3802 = some r) :
    Calls Try.prog 105 #[.slice p3797 x3795.length c3798, .int .i64 x3801, .int .i64 x3802, .func (.func 85) #[] #[]] w fun e w' => ∃ (sg3803 : Seg), e = .returned (.tuple #[]) ∧ ownS encEvent r p3797 c3798 sg3803 ∧ r.length = x3795.length ∧ Mem (idsOf [sg3799]) w w' [sg3803] := by
  unfold M.slices_insertionSortCmpFunc_105__i_merged_1 at hm
  refine C_enter Try.func105 rfl (by kernel_rfl) ?_
  have M0 := Mem.start' w [sg3799] hA hN
  refine G_seq ?_
  refine G_region ?_
  refine W_run 3 [(0, .slice p3797 x3795.length c3798), (1, .int .i64 x3801), (2, .int .i64 x3802), (3, .func (.func 85) #[] #[]), (8, .int .i64 (w64 (x3801 + 1)))] w (by kernel_rfl) ?_
  refine W_nil ?_
  refine N_then ?_
  obtain ⟨out4530, hw4531, hmo4532⟩ := gx_bind hm
  refine G_meet (fun a w' => ∃ (sg4537 : Seg), ownS encEvent out4530 p3797 c3798 sg4537 ∧ out4530.length = x3795.length ∧ Mem (idsOf [sg3799]) w w' [sg4537] ∧ Sat Try.f105.ntmps [] a) ?_ ?_
  · refine G_block ?_
    refine G_while (σ := Int × List Event) (ρ := List Event) (fun s4523 a w' => ∃ (sg4533 : Seg), ownS encEvent s4523.2 p3797 c3798 sg4533 ∧ s4523.2.length = x3795.length ∧ Mem (idsOf [sg3799]) w w' [sg4533] ∧ Sat Try.f105.ntmps [(0, .slice p3797 s4523.2.length c3798), (1, .int .i64 x3801), (2, .int .i64 x3802), (3, .func (.func 85) #[] #[]), (8, .int .i64 s4523.1)] a) hw4531 (fun a ha => ⟨sg3799, ho3800, rfl, M0.pick [0] (by kernel_rfl), ha.sub (by kernel_rfl)⟩) ?_
    clear hm
    intro s4523 x4524 hm hout4525 a4526 w4527 ⟨sg4533, ho4534, hl4535, M4528, hS4529⟩
    refine G_use hS4529 ?_
    refine G_seq ?_
    refine G_seq ?_
    refine G_region ?_
    refine W_run 3 [(0, .slice p3797 s4523.2.length c3798), (1, .int .i64 x3801), (2, .int .i64 x3802), (3, .func (.func 85) #[] #[]), (8, .int .i64 s4523.1), (14, .bool (decide (s4523.1 < x3802)))] w4527 (by kernel_rfl) ?_
    refine W_nil ?_
    refine N_then ?_
    rcases gx_bif hm with ⟨hc4540, hm⟩ | ⟨hc4540, hm⟩
    · refine G_cond_t (b := (decide (s4523.1 < x3802))) hc4540 (by kernel_rfl) ?_
      refine G_skip ?_
      refine N_then ?_
      refine G_seq ?_
      refine G_block ?_
      refine G_seq ?_
      refine G_region ?_
      refine W_run 2 [(0, .slice p3797 s4523.2.length c3798), (1, .int .i64 x3801), (2, .int .i64 x3802), (3, .func (.func 85) #[] #[]), (8, .int .i64 s4523.1), (9, .int .i64 s4523.1)] w4527 (by kernel_rfl) ?_
      refine W_nil ?_
      refine N_then ?_
      obtain ⟨out4773, hw4774, hmo4775⟩ := gx_bind hm
      refine G_meet (fun a w' => ∃ (sg4780 : Seg), ownS encEvent out4773 p3797 c3798 sg4780 ∧ out4773.length = x3795.length ∧ Mem (idsOf [sg3799]) w w' [sg4780] ∧ Sat Try.f105.ntmps [(0, .slice p3797 out4773.length c3798), (1, .int .i64 x3801), (2, .int .i64 x3802), (3, .func (.func 85) #[] #[]), (8, .int .i64 s4523.1)] a) ?_ ?_
      · refine G_block ?_
        refine G_while (σ := Int × List Event) (ρ := List Event) (fun s4766 a w' => ∃ (sg4776 : Seg), ownS encEvent s4766.2 p3797 c3798 sg4776 ∧ s4766.2.length = x3795.length ∧ Mem (idsOf [sg3799]) w w' [sg4776] ∧ Sat Try.f105.ntmps [(0, .slice p3797 s4766.2.length c3798), (1, .int .i64 x3801), (2, .int .i64 x3802), (3, .func (.func 85) #[] #[]), (8, .int .i64 s4523.1), (9, .int .i64 s4766.1)] a) hw4774 (fun a ha => ⟨sg4533, ho4534, hl4535, M4528.pick [0] (by kernel_rfl), ha.sub (by kernel_rfl)⟩) ?_
        clear hm
        intro s4766 x4767 hm hout4768 a4769 w4770 ⟨sg4776, ho4777, hl4778, M4771, hS4772⟩
        refine G_use hS4772 ?_
        refine G_seq ?_
        refine G_seq ?_
        obtain ⟨o4794, ho4795, hm4796⟩ := gx_bind hm
        refine G_meet (fun a w' => Mem (idsOf [sg3799]) w w' [sg4776] ∧ Sat Try.f105.ntmps [(0, .slice p3797 s4766.2.length c3798), (1, .int .i64 x3801), (2, .int .i64 x3802), (3, .func (.func 85) #[] #[]), (8, .int .i64 s4523.1), (9, .int .i64 s4766.1), (34, .bool o4794)] a) ?_ ?_
        · have hm := ho4795
          refine G_quiet (by kernel_rfl) (by kernel_rfl) M4771 ?_
          refine Z_runs [.int .i64 s4766.1, .int .i64 x3801, .bool (decide (s4766.1 > x3801)), .bool (decide (s4766.1 > x3801))] [(0, .slice p3797 s4766.2.length c3798), (1, .int .i64 x3801), (2, .int .i64 x3802), (3, .func (.func 85) #[] #[]), (8, .int .i64 s4523.1), (9, .int .i64 s4766.1), (21, .bool (decide (s4766.1 > x3801)))] (fun w_ => by kernel_rfl) (by kernel_rfl) ?_
          rcases gx_bif hm with ⟨hc4797, hm⟩ | ⟨hc4797, hm⟩
          · refine Z_known 21 true (by kernel_rfl) hc4797 ?_
            refine Z_runs [.func (.func 85) #[] #[], .slice p3797 s4766.2.length c3798, .int .i64 s4766.1] [(0, .slice p3797 s4766.2.length c3798), (1, .int .i64 x3801), (2, .int .i64 x3802), (3, .func (.func 85) #[] #[]), (8, .int .i64 s4523.1), (9, .int .i64 s4766.1), (21, .bool true), (22, .func (.func 85) #[] #[]), (23, .slice p3797 s4766.2.length c3798), (24, .int .i64 s4766.1)] (fun w_ => by kernel_rfl) (by kernel_rfl) ?_
            obtain ⟨y4798, hy4798, hm⟩ := gx_bind hm
            refine Z_val (elemP p3797 (s4766.1.toNat * 4)) (by kernel_rfl) (fun w_ M_ => (E_index (E := encEvent) _ _ _ s4766.2.length c3798 .i64 s4766.1 4 (y := y4798) rfl (by kernel_rfl) (by kernel_rfl) (by kernel_rfl) (ho4777.rd M_ 0 (by kernel_rfl)) rfl hy4798)) ?_
            refine Z_val (.agg #[.int .i64 y4798.Tick, .int .i64 y4798.Guest, .string y4798.Kind, .int .i64 y4798.Value]) (by kernel_rfl) (fun w_ M_ => (E_loadE (E := encEvent) _ _ true 4 s4766.1 0 (s4766.1.toNat * 4) y4798 (.agg #[.int .i64 y4798.Tick, .int .i64 y4798.Guest, .string y4798.Kind, .int .i64 y4798.Value]) rfl (by kernel_rfl) (by kernel_rfl) (by kernel_rfl) (ho4777.rd M_ 0 (by kernel_rfl)) hy4798 rfl)) ?_
            refine Z_runs [.slice p3797 s4766.2.length c3798, .int .i64 s4766.1, .int .i64 (w64 (s4766.1 - 1))] [(0, .slice p3797 s4766.2.length c3798), (1, .int .i64 x3801), (2, .int .i64 x3802), (3, .func (.func 85) #[] #[]), (8, .int .i64 s4523.1), (9, .int .i64 s4766.1), (21, .bool true), (22, .func (.func 85) #[] #[]), (26, .agg #[.int .i64 y4798.Tick, .int .i64 y4798.Guest, .string y4798.Kind, .int .i64 y4798.Value]), (27, .slice p3797 s4766.2.length c3798), (29, .int .i64 (w64 (s4766.1 - 1)))] (fun w_ => by kernel_rfl) (by kernel_rfl) ?_
            obtain ⟨y4799, hy4799, hm⟩ := gx_bind hm
            refine Z_val (elemP p3797 ((w64 (s4766.1 - 1)).toNat * 4)) (by kernel_rfl) (fun w_ M_ => (E_index (E := encEvent) _ _ _ s4766.2.length c3798 .i64 (w64 (s4766.1 - 1)) 4 (y := y4799) rfl (by kernel_rfl) (by kernel_rfl) (by kernel_rfl) (ho4777.rd M_ 0 (by kernel_rfl)) rfl hy4799)) ?_
            refine Z_val (.agg #[.int .i64 y4799.Tick, .int .i64 y4799.Guest, .string y4799.Kind, .int .i64 y4799.Value]) (by kernel_rfl) (fun w_ M_ => (E_loadE (E := encEvent) _ _ true 4 (w64 (s4766.1 - 1)) 0 ((w64 (s4766.1 - 1)).toNat * 4) y4799 (.agg #[.int .i64 y4799.Tick, .int .i64 y4799.Guest, .string y4799.Kind, .int .i64 y4799.Value]) rfl (by kernel_rfl) (by kernel_rfl) (by kernel_rfl) (ho4777.rd M_ 0 (by kernel_rfl)) hy4799 rfl)) ?_
            obtain ⟨r4800, hr4800, hm⟩ := gx_bind hm
            refine Z_call 85 #[.agg #[.int .i64 y4798.Tick, .int .i64 y4798.Guest, .string y4798.Kind, .int .i64 y4798.Value], .agg #[.int .i64 y4799.Tick, .int .i64 y4799.Guest, .string y4799.Kind, .int .i64 y4799.Value]] (.int .i64 r4800) (by kernel_rfl) (fun w_ => by kernel_rfl) (fun w_ M_ => (c_i_merged_1 w_ y4798 y4799 hr4800).mono fun e w2_ h_ => ⟨h_.1, M_.call0 h_.2⟩) ?_
            refine Z_runs [.bool (decide (r4800 < 0)), .bool (decide (r4800 < 0))] [(0, .slice p3797 s4766.2.length c3798), (1, .int .i64 x3801), (2, .int .i64 x3802), (3, .func (.func 85) #[] #[]), (8, .int .i64 s4523.1), (9, .int .i64 s4766.1), (34, .bool (decide (r4800 < 0)))] (fun w_ => by kernel_rfl) (by kernel_rfl) ?_
            refine Z_end fun w4804 M4805 => ?_
            obtain rfl := Option.some.inj hm
            exact N_meet fun a ha => ⟨M4805.pick [0] (by kernel_rfl), ha.sub (by kernel_rfl)⟩
          refine Z_known 21 false (by kernel_rfl) hc4797 ?_
          refine Z_runs [undef, undef, undef, undef, undef, undef, undef, undef, undef, undef, undef, undef, .bool false] [(0, .slice p3797 s4766.2.length c3798), (1, .int .i64 x3801), (2, .int .i64 x3802), (3, .func (.func 85) #[] #[]), (8, .int .i64 s4523.1), (9, .int .i64 s4766.1), (34, .bool false)] (fun w_ => by kernel_rfl) (by kernel_rfl) ?_
          refine Z_end fun w4806 M4807 => ?_
          obtain rfl := Option.some.inj hm
          exact N_meet fun a ha => ⟨M4807.pick [0] (by kernel_rfl), ha.sub (by kernel_rfl)⟩
        intro a4810 w4808 ⟨M4809, hS4811⟩
        refine N_use hS4811 ?_
        have hm := hm4796
        refine N_then ?_
        rcases gx_bif hm with ⟨hc4812, hm⟩ | ⟨hc4812, hm⟩
        · refine G_cond_t (b := o4794) hc4812 (by kernel_rfl) ?_
          refine G_skip ?_
          refine N_then ?_
          refine G_seq ?_
          refine G_block ?_
          obtain ⟨y4815, hy4815, hm⟩ := gx_bind hm
          obtain ⟨y4816, hy4816, hm⟩ := gx_bind hm
          obtain ⟨y4817, hy4817, hm⟩ := gx_bind hm
          have M4819 : Mem (idsOf [sg3799]) w w4808 ([] ++ (List.range 16).map (fun i => ([[], [], [], [], [], [], [], [], [], [], [], [], [], [], [], sg4776] : List Seg).getD i [])) := M4809.pick [300000, 300001, 300002, 300003, 300004, 300005, 300006, 300007, 300008, 300009, 300010, 300011, 300012, 300013, 300014, 0] (by kernel_rfl)
          refine G_sub [(0, .slice p3797 s4766.2.length c3798), (1, .int .i64 x3801), (2, .int .i64 x3802), (3, .func (.func 85) #[] #[]), (8, .int .i64 s4523.1), (9, .int .i64 s4766.1), (34, .bool o4794)] (by kernel_rfl) ?_
          refine G_dagL 16 [[], [], [], [], [3], [], [], [6], [5, 7], [8], [], [], [10, 11], [12], [0, 1], [9, 14]] [[], [], [], [], [], [], [], [], [], [], [], [], [], [], [], []] [[], [], [], [], [], [], [], [], [], [], [], [], [], [], [], []] [[], [], [], [], [], [], [], [], [], [], [], [], [], [], [], []] [[], [], [], [], [], [], [], [], [], [], [], [], [], [], [], []] [[], [], [], [], [], [], [], [], [15], [15], [], [], [15], [15], [15], []] (fun i => ([[], [], [], [], [], [], [], [], [], [], [], [], [], [], [], sg4776] : List Seg).getD i []) (fun i => ([fun f v s => v = (.slice p3797 s4766.2.length c3798 : Value) ∧ s = [], fun f v s => v = (.int .i64 s4766.1 : Value) ∧ s = [], fun f v s => v = (.slice p3797 s4766.2.length c3798 : Value) ∧ s = [], fun f v s => v = (.int .i64 s4766.1 : Value) ∧ s = [], fun f v s => v = (.int .i64 (w64 (s4766.1 - 1)) : Value) ∧ s = [], fun f v s => v = (.slice p3797 s4766.2.length c3798 : Value) ∧ s = [], fun f v s => v = (.int .i64 s4766.1 : Value) ∧ s = [], fun f v s => v = (.int .i64 (w64 (s4766.1 - 1)) : Value) ∧ s = [], fun f v s => v = (elemP p3797 ((w64 (s4766.1 - 1)).toNat * 4) : Value) ∧ s = [], fun f v s => v = (.agg #[.int .i64 y4815.Tick, .int .i64 y4815.Guest, .string y4815.Kind, .int .i64 y4815.Value] : Value) ∧ s = [], fun f v s => v = (.slice p3797 s4766.2.length c3798 : Value) ∧ s = [], fun f v s => v = (.int .i64 s4766.1 : Value) ∧ s = [], fun f v s => v = (elemP p3797 (s4766.1.toNat * 4) : Value) ∧ s = [], fun f v s => v = (.agg #[.int .i64 y4816.Tick, .int .i64 y4816.Guest, .string y4816.Kind, .int .i64 y4816.Value] : Value) ∧ s = [], fun f v s => v = (elemP p3797 (s4766.1.toNat * 4) : Value) ∧ s = [], fun f v s => v = undef ∧ ownS encEvent (s4766.2.set s4766.1.toNat y4815) p3797 c3798 s] : List ((Nat → Value) → Value → Seg → Prop)).getD i (fun _ _ _ => False)) (fun j f v => ∃ s, (fun i => ([fun f v s => v = (.slice p3797 s4766.2.length c3798 : Value) ∧ s = [], fun f v s => v = (.int .i64 s4766.1 : Value) ∧ s = [], fun f v s => v = (.slice p3797 s4766.2.length c3798 : Value) ∧ s = [], fun f v s => v = (.int .i64 s4766.1 : Value) ∧ s = [], fun f v s => v = (.int .i64 (w64 (s4766.1 - 1)) : Value) ∧ s = [], fun f v s => v = (.slice p3797 s4766.2.length c3798 : Value) ∧ s = [], fun f v s => v = (.int .i64 s4766.1 : Value) ∧ s = [], fun f v s => v = (.int .i64 (w64 (s4766.1 - 1)) : Value) ∧ s = [], fun f v s => v = (elemP p3797 ((w64 (s4766.1 - 1)).toNat * 4) : Value) ∧ s = [], fun f v s => v = (.agg #[.int .i64 y4815.Tick, .int .i64 y4815.Guest, .string y4815.Kind, .int .i64 y4815.Value] : Value) ∧ s = [], fun f v s => v = (.slice p3797 s4766.2.length c3798 : Value) ∧ s = [], fun f v s => v = (.int .i64 s4766.1 : Value) ∧ s = [], fun f v s => v = (elemP p3797 (s4766.1.toNat * 4) : Value) ∧ s = [], fun f v s => v = (.agg #[.int .i64 y4816.Tick, .int .i64 y4816.Guest, .string y4816.Kind, .int .i64 y4816.Value] : Value) ∧ s = [], fun f v s => v = (elemP p3797 (s4766.1.toNat * 4) : Value) ∧ s = [], fun f v s => v = undef ∧ ownS encEvent (s4766.2.set s4766.1.toNat y4815) p3797 c3798 s] : List ((Nat → Value) → Value → Seg → Prop)).getD i (fun _ _ _ => False)) j f v s) [] [2, 4, 13, 15] [15] (fun _ _ _ s h => ⟨s, h⟩) (by kernel_rfl) (by kernel_rfl) M4819 (by kernel_rfl) (by kernel_rfl) (by kernel_rfl) (by kernel_rfl) (allOb_cons ?_ (allOb_cons ?_ (allOb_cons ?_ (allOb_cons ?_ (allOb_cons ?_ (allOb_cons ?_ (allOb_cons ?_ (allOb_cons ?_ (allOb_cons ?_ (allOb_cons ?_ (allOb_cons ?_ (allOb_cons ?_ (allOb_cons ?_ (allOb_cons ?_ (allOb_cons ?_ (allOb_cons ?_ allOb_nil)))))))))))))))) ?_
          · intro g4813 f4814
            intro R w4820 M4821
            refine W_run 1 [(37, .slice p3797 s4766.2.length c3798)] w4820 (by kernel_rfl) ?_
            exact W_nil (ob_end (.slice p3797 s4766.2.length c3798) [] rfl (by kernel_rfl) ⟨by kernel_rfl, rfl⟩ M4821)
          · intro g4813 f4814
            intro R w4824 M4825
            refine W_run 1 [(38, .int .i64 s4766.1)] w4824 (by kernel_rfl) ?_
            exact W_nil (ob_end (.int .i64 s4766.1) [] rfl (by kernel_rfl) ⟨by kernel_rfl, rfl⟩ M4825)
          · intro g4813 f4814
            intro R w4828 M4829
            refine W_run 1 [(39, .slice p3797 s4766.2.length c3798)] w4828 (by kernel_rfl) ?_
            exact W_nil (ob_end (.slice p3797 s4766.2.length c3798) [] rfl (by kernel_rfl) ⟨by kernel_rfl, rfl⟩ M4829)
          · intro g4813 f4814
            intro R w4832 M4833
            refine W_run 1 [(40, .int .i64 s4766.1)] w4832 (by kernel_rfl) ?_
            exact W_nil (ob_end (.int .i64 s4766.1) [] rfl (by kernel_rfl) ⟨by kernel_rfl, rfl⟩ M4833)
          · intro g4813 f4814
            intro v3_ hb3_
            obtain ⟨rfl, _⟩ := hb3_
            intro R w4836 M4837
            refine W_run 1 [(41, .int .i64 (w64 (s4766.1 - 1)))] w4836 (by kernel_rfl) ?_
            exact W_nil (ob_end (.int .i64 (w64 (s4766.1 - 1))) [] rfl (by kernel_rfl) ⟨by kernel_rfl, rfl⟩ M4837)
          · intro g4813 f4814
            intro R w4840 M4841
            refine W_run 1 [(42, .slice p3797 s4766.2.length c3798)] w4840 (by kernel_rfl) ?_
            exact W_nil (ob_end (.slice p3797 s4766.2.length c3798) [] rfl (by kernel_rfl) ⟨by kernel_rfl, rfl⟩ M4841)
          · intro g4813 f4814
            intro R w4844 M4845
            refine W_run 1 [(43, .int .i64 s4766.1)] w4844 (by kernel_rfl) ?_
            exact W_nil (ob_end (.int .i64 s4766.1) [] rfl (by kernel_rfl) ⟨by kernel_rfl, rfl⟩ M4845)
          · intro g4813 f4814
            intro v6_ hb6_
            obtain ⟨rfl, _⟩ := hb6_
            intro R w4848 M4849
            refine W_run 1 [(44, .int .i64 (w64 (s4766.1 - 1)))] w4848 (by kernel_rfl) ?_
            exact W_nil (ob_end (.int .i64 (w64 (s4766.1 - 1))) [] rfl (by kernel_rfl) ⟨by kernel_rfl, rfl⟩ M4849)
          · intro g4813 f4814
            intro v5_ hb5_
            obtain ⟨rfl, _⟩ := hb5_
            intro v7_ hb7_
            obtain ⟨rfl, _⟩ := hb7_
            intro R w4852 M4853
            refine W_val (elemP p3797 ((w64 (s4766.1 - 1)).toNat * 4)) w4852 (by kernel_rfl) (E_index (E := encEvent) _ _ _ s4766.2.length c3798 .i64 (w64 (s4766.1 - 1)) 4 (y := y4815) rfl (by kernel_rfl) (by kernel_rfl) (by kernel_rfl) (ho4777.rd M4853 1 (by kernel_rfl)) rfl hy4815) ?_
            exact W_nil (ob_end (elemP p3797 ((w64 (s4766.1 - 1)).toNat * 4)) [] rfl (by kernel_rfl) ⟨by kernel_rfl, rfl⟩ M4853)
          · intro g4813 f4814
            intro v8_ hb8_
            obtain ⟨rfl, _⟩ := hb8_
            intro R w4856 M4857
            refine W_val (.agg #[.int .i64 y4815.Tick, .int .i64 y4815.Guest, .string y4815.Kind, .int .i64 y4815.Value]) w4856 (by kernel_rfl) (E_loadE (E := encEvent) _ _ true 4 (w64 (s4766.1 - 1)) 0 ((w64 (s4766.1 - 1)).toNat * 4) y4815 (.agg #[.int .i64 y4815.Tick, .int .i64 y4815.Guest, .string y4815.Kind, .int .i64 y4815.Value]) rfl (by kernel_rfl) (by kernel_rfl) (by kernel_rfl) (ho4777.rd M4857 1 (by kernel_rfl)) hy4815 rfl) ?_
            exact W_nil (ob_end (.agg #[.int .i64 y4815.Tick, .int .i64 y4815.Guest, .string y4815.Kind, .int .i64 y4815.Value]) [] rfl (by kernel_rfl) ⟨by kernel_rfl, rfl⟩ M4857)
          · intro g4813 f4814
            intro R w4860 M4861
            refine W_run 1 [(47, .slice p3797 s4766.2.length c3798)] w4860 (by kernel_rfl) ?_
            exact W_nil (ob_end (.slice p3797 s4766.2.length c3798) [] rfl (by kernel_rfl) ⟨by kernel_rfl, rfl⟩ M4861)
          · intro g4813 f4814
            intro R w4864 M4865
            refine W_run 1 [(48, .int .i64 s4766.1)] w4864 (by kernel_rfl) ?_
            exact W_nil (ob_end (.int .i64 s4766.1) [] rfl (by kernel_rfl) ⟨by kernel_rfl, rfl⟩ M4865)
          · intro g4813 f4814
            intro v10_ hb10_
            obtain ⟨rfl, _⟩ := hb10_
            intro v11_ hb11_
            obtain ⟨rfl, _⟩ := hb11_
            intro R w4868 M4869
            refine W_val (elemP p3797 (s4766.1.toNat * 4)) w4868 (by kernel_rfl) (E_index (E := encEvent) _ _ _ s4766.2.length c3798 .i64 s4766.1 4 (y := y4816) rfl (by kernel_rfl) (by kernel_rfl) (by kernel_rfl) (ho4777.rd M4869 1 (by kernel_rfl)) rfl hy4816) ?_
            exact W_nil (ob_end (elemP p3797 (s4766.1.toNat * 4)) [] rfl (by kernel_rfl) ⟨by kernel_rfl, rfl⟩ M4869)
          · intro g4813 f4814
            intro v12_ hb12_
            obtain ⟨rfl, _⟩ := hb12_
            intro R w4872 M4873
            refine W_val (.agg #[.int .i64 y4816.Tick, .int .i64 y4816.Guest, .string y4816.Kind, .int .i64 y4816.Value]) w4872 (by kernel_rfl) (E_loadE (E := encEvent) _ _ true 4 s4766.1 0 (s4766.1.toNat * 4) y4816 (.agg #[.int .i64 y4816.Tick, .int .i64 y4816.Guest, .string y4816.Kind, .int .i64 y4816.Value]) rfl (by kernel_rfl) (by kernel_rfl) (by kernel_rfl) (ho4777.rd M4873 1 (by kernel_rfl)) hy4816 rfl) ?_
            exact W_nil (ob_end (.agg #[.int .i64 y4816.Tick, .int .i64 y4816.Guest, .string y4816.Kind, .int .i64 y4816.Value]) [] rfl (by kernel_rfl) ⟨by kernel_rfl, rfl⟩ M4873)
          · intro g4813 f4814
            intro v0_ hb0_
            obtain ⟨rfl, _⟩ := hb0_
            intro v1_ hb1_
            obtain ⟨rfl, _⟩ := hb1_
            intro R w4876 M4877
            refine W_val (elemP p3797 (s4766.1.toNat * 4)) w4876 (by kernel_rfl) (E_index (E := encEvent) _ _ _ s4766.2.length c3798 .i64 s4766.1 4 (y := y4817) rfl (by kernel_rfl) (by kernel_rfl) (by kernel_rfl) (ho4777.rd M4877 1 (by kernel_rfl)) rfl hy4817) ?_
            exact W_nil (ob_end (elemP p3797 (s4766.1.toNat * 4)) [] rfl (by kernel_rfl) ⟨by kernel_rfl, rfl⟩ M4877)
          · intro g4813 f4814
            intro v9_ hb9_
            obtain ⟨rfl, _⟩ := hb9_
            intro v14_ hb14_
            obtain ⟨rfl, _⟩ := hb14_
            intro R w4880 M4881
            refine W_storeE (E := encEvent) _ _ _ true 4 s4766.1.toNat 0 (s4766.1.toNat * 4) y4817 y4815 (.agg #[.int .i64 y4815.Tick, .int .i64 y4815.Guest, .string y4815.Kind, .int .i64 y4815.Value]) 0 M4881 ho4777 (by kernel_rfl) (by kernel_rfl) rfl (by kernel_rfl) (by kernel_rfl) (by kernel_rfl) (by kernel_rfl) (by kernel_rfl) (by kernel_rfl) (by kernel_rfl) (gxIdx_spec hy4817).2 rfl ?_
            intro w4882 sg4884 ho4885 M4883
            exact W_nil (ob_none sg4884 rfl ⟨rfl, ho4885⟩ M4883)
          intro g4813 f4814
          intro v2_ hb2_
          obtain ⟨rfl, _⟩ := hb2_
          intro v4_ hb4_
          obtain ⟨rfl, _⟩ := hb4_
          intro v13_ hb13_
          obtain ⟨rfl, _⟩ := hb13_
          intro v15_ hb15_
          obtain ⟨rfl, ho4818⟩ := hb15_
          intro w4886 M4887
          have M4888 : Mem (idsOf [sg3799]) w w4886 [(g4813 15)] := M4887
          refine W_conv 0 (.slice p3797 s4766.2.length c3798) (.slice p3797 (s4766.2.set s4766.1.toNat y4815).length c3798) (by kernel_rfl) (by rw [@List.length_set _ s4766.2 s4766.1.toNat y4815]) ?_
          refine W_conv 39 (.slice p3797 s4766.2.length c3798) (.slice p3797 (s4766.2.set s4766.1.toNat y4815).length c3798) (by kernel_rfl) (by rw [@List.length_set _ s4766.2 s4766.1.toNat y4815]) ?_
          obtain ⟨y4889, hy4889, hm⟩ := gx_bind hm
          refine W_val (elemP p3797 ((w64 (s4766.1 - 1)).toNat * 4)) w4886 (by kernel_rfl) (E_index (E := encEvent) _ _ _ (s4766.2.set s4766.1.toNat y4815).length c3798 .i64 (w64 (s4766.1 - 1)) 4 (y := y4889) rfl (by kernel_rfl) (by kernel_rfl) (by kernel_rfl) (ho4818.rd M4888 0 (by kernel_rfl)) rfl hy4889) ?_
          refine W_storeE (E := encEvent) _ _ _ true 4 (w64 (s4766.1 - 1)).toNat 0 ((w64 (s4766.1 - 1)).toNat * 4) y4889 y4816 (.agg #[.int .i64 y4816.Tick, .int .i64 y4816.Guest, .string y4816.Kind, .int .i64 y4816.Value]) 0 M4888 ho4818 (by kernel_rfl) (by kernel_rfl) rfl (by kernel_rfl) (by kernel_rfl) (by kernel_rfl) (by kernel_rfl) (by kernel_rfl) (by kernel_rfl) (by kernel_rfl) (gxIdx_spec hy4889).2 rfl ?_
          intro w4890 sg4892 ho4893 M4891
          refine W_conv 0 (.slice p3797 (s4766.2.set s4766.1.toNat y4815).length c3798) (.slice p3797 ((s4766.2.set s4766.1.toNat y4815).set (w64 (s4766.1 - 1)).toNat y4816).length c3798) (by kernel_rfl) (by rw [@List.length_set _ (s4766.2.set s4766.1.toNat y4815) ((w64 (s4766.1 - 1)).toNat) y4816]) ?_
          refine W_conv 39 (.slice p3797 (s4766.2.set s4766.1.toNat y4815).length c3798) (.slice p3797 ((s4766.2.set s4766.1.toNat y4815).set (w64 (s4766.1 - 1)).toNat y4816).length c3798) (by kernel_rfl) (by rw [@List.length_set _ (s4766.2.set s4766.1.toNat y4815) ((w64 (s4766.1 - 1)).toNat) y4816]) ?_
          refine W_nil ?_
          refine N_block ?_
          refine N_then ?_
          refine G_region ?_
          refine W_run 3 [(0, .slice p3797 ((s4766.2.set s4766.1.toNat y4815).set (w64 (s4766.1 - 1)).toNat y4816).length c3798), (1, .int .i64 x3801), (2, .int .i64 x3802), (3, .func (.func 85) #[] #[]), (8, .int .i64 s4523.1), (9, .int .i64 (w64 (s4766.1 - 1)))] w4890 (by kernel_rfl) ?_
          refine W_nil ?_
          obtain rfl := Option.some.inj hm
          exact N_loop fun a ha => ⟨_, rfl, sg4892, ho4893, (List.length_set.trans (List.length_set.trans hl4778)), M4891.pick [0] (by kernel_rfl), ha.sub (by kernel_rfl)⟩
        refine G_cond_f (b := o4794) hc4812 (by kernel_rfl) ?_
        refine G_exit ?_
        refine N_then_exit ?_
        refine N_then_exit ?_
        refine N_block_eq ?_
        obtain rfl := Option.some.inj hm
        obtain rfl := hout4768 _ rfl
        exact N_meet fun a ha => ⟨sg4776, ho4777, hl4778, M4809.pick [0] (by kernel_rfl), ha.sub (by kernel_rfl)⟩
      intro a4894 w4895 ⟨sg4780, ho4781, hl4782, M4896, hS4897⟩
      refine N_use hS4897 ?_
      have hm := hmo4775
      refine N_block ?_
      refine N_then ?_
      refine G_region ?_
      refine W_run 3 [(0, .slice p3797 out4773.length c3798), (1, .int .i64 x3801), (2, .int .i64 x3802), (3, .func (.func 85) #[] #[]), (8, .int .i64 (w64 (s4523.1 + 1)))] w4895 (by kernel_rfl) ?_
      refine W_nil ?_
      obtain rfl := Option.some.inj hm
      exact N_loop fun a ha => ⟨_, rfl, sg4780, ho4781, hl4782, M4896.pick [0] (by kernel_rfl), ha.sub (by kernel_rfl)⟩
    refine G_cond_f (b := (decide (s4523.1 < x3802))) hc4540 (by kernel_rfl) ?_
    refine G_exit ?_
    refine N_then_exit ?_
    refine N_then_exit ?_
    refine N_block_eq ?_
    obtain rfl := Option.some.inj hm
    obtain rfl := hout4525 _ rfl
    exact N_meet fun a ha => ⟨sg4533, ho4534, hl4535, M4528.pick [0] (by kernel_rfl), ha.sub (by kernel_rfl)⟩
  intro a4898 w4899 ⟨sg4537, ho4538, hl4539, M4900, hS4901⟩
  refine N_use hS4901 ?_
  have hm := hmo4532
  obtain rfl := Option.some.inj hm
  refine N_end [] (RVs_nil) ?_
  exact ⟨sg4537, rfl, ho4538, hl4539, M4900.pick [0] (by kernel_rfl)⟩
theorem c_slices_swapRangeCmpFunc_115__i_merged_1 (w : World) (x5854 : List Event) (p5856 : Option Addr) (c5857 : Nat) (sg5858 : Seg) (ho5859 : ownS encEvent x5854 p5856 c5857 sg5858) (x5860 : Int) (x5861 : Int) (x5862 : Int) (hA : ∀ q ∈ List.flatten [sg5858], w.heap[q.1]? = some q.2) (hN : (idsOf [sg5858]).Nodup) {r : (List Event)} (hm : M.slices_swapRangeCmpFunc_115__i_merged_1 x5854 x5860 x5861 x5862 = some r) :
    Calls Try.prog 115 #[.slice p5856 x5854.length c5857, .int .i64 x5860, .int .i64 x5861, .int .i64 x5862, .func (.func 85) #[] #[]] w fun e w' => ∃ (sg5863 : Seg), e = .returned (.tuple #[]) ∧ ownS encEvent r p5856 c5857 sg5863 ∧ r.length = x5854.length ∧ Mem (idsOf [sg5858]) w w' [sg5863] := by
  unfold M.slices_swapRangeCmpFunc_115__i_merged_1 at hm
  refine C_enter Try.func115 rfl (by kernel_rfl) ?_
  have M0 := Mem.start' w [sg5858] hA hN
  refine G_seq ?_
  refine G_region ?_
  refine W_run 1 [(0, .slice p5856 x5854.length c5857), (1, .int .i64 x5860), (2, .int .i64 x5861), (3, .int .i64 x5862), (10, .int .i64 0)] w (by kernel_rfl) ?_
  refine W_nil ?_
  refine N_then ?_
  obtain ⟨out6086, hw6087, hmo6088⟩ := gx_bind hm
  refine G_meet (fun a w' => ∃ (sg6093 : Seg), ownS encEvent out6086 p5856 c5857 sg6093 ∧ out6086.length = x5854.length ∧ Mem (idsOf [sg5858]) w w' [sg6093] ∧ Sat Try.f115.ntmps [] a) ?_ ?_
  · refine G_block ?_
    refine G_while (σ := Int × List Event) (ρ := List Event) (fun s6079 a w' => ∃ (sg6089 : Seg), ownS encEvent s6079.2 p5856 c5857 sg6089 ∧ s6079.2.length = x5854.length ∧ Mem (idsOf [sg5858]) w w' [sg6089] ∧ Sat Try.f115.ntmps [(0, .slice p5856 s6079.2.length c5857), (1, .int .i64 x5860), (2, .int .i64 x5861), (3, .int .i64 x5862), (10, .int .i64 s6079.1)] a) hw6087 (fun a ha => ⟨sg5858, ho5859, rfl, M0.pick [0] (by kernel_rfl), ha.sub (by kernel_rfl)⟩) ?_
    clear hm
    intro s6079 x6080 hm hout6081 a6082 w6083 ⟨sg6089, ho6090, hl6091, M6084, hS6085⟩
    refine G_use hS6085 ?_
    refine G_seq ?_
    refine G_seq ?_
    refine G_region ?_
    refine W_run 3 [(0, .slice p5856 s6079.2.length c5857), (1, .int .i64 x5860), (2, .int .i64 x5861), (3, .int .i64 x5862), (10, .int .i64 s6079.1), (13, .bool (decide (s6079.1 < x5862)))] w6083 (by kernel_rfl) ?_
    refine W_nil ?_
    refine N_then ?_
    rcases gx_bif hm with ⟨hc6096, hm⟩ | ⟨hc6096, hm⟩
    · refine G_cond_t (b := (decide (s6079.1 < x5862))) hc6096 (by kernel_rfl) ?_
      refine G_skip ?_
      refine N_then ?_
      refine G_seq ?_
      refine G_block ?_
      obtain ⟨y6099, hy6099, hm⟩ := gx_bind hm
      obtain ⟨y6100, hy6100, hm⟩ := gx_bind hm
      obtain ⟨y6101, hy6101, hm⟩ := gx_bind hm
      have M6103 : Mem (idsOf [sg5858]) w w6083 ([] ++ (List.range 22).map (fun i => ([[], [], [], [], [], [], [], [], [], [], [], [], [], [], [], [], [], [], [], [], [], sg6089] : List Seg).getD i [])) := M6084.pick [300000, 300001, 300002, 300003, 300004, 300005, 300006, 300007, 300008, 300009, 300010, 300011, 300012, 300013, 300014, 300015, 300016, 300017, 300018, 300019, 300020, 0] (by kernel_rfl)
      refine G_sub [(0, .slice p5856 s6079.2.length c5857), (1, .int .i64 x5860), (2, .int .i64 x5861), (3, .int .i64 x5862), (10, .int .i64 s6079.1), (13, .bool (decide (s6079.1 < x5862)))] (by kernel_rfl) ?_
      refine G_dagL 22 [[], [], [], [1, 2], [], [], [], [5, 6], [], [], [], [9, 10], [8, 11], [12], [], [], [], [15, 16], [14, 17], [18], [0, 3], [13, 20]] [[], [], [], [], [], [], [], [], [], [], [], [], [], [], [], [], [], [], [], [], [], []] [[], [], [], [], [], [], [], [], [], [], [], [], [], [], [], [], [], [], [], [], [], []] [[], [], [], [], [], [], [], [], [], [], [], [], [], [], [], [], [], [], [], [], [], []] [[], [], [], [], [], [], [], [], [], [], [], [], [], [], [], [], [], [], [], [], [], []] [[], [], [], [], [], [], [], [], [], [], [], [], [21], [21], [], [], [], [], [21], [21], [21], []] (fun i => ([[], [], [], [], [], [], [], [], [], [], [], [], [], [], [], [], [], [], [], [], [], sg6089] : List Seg).getD i []) (fun i => ([fun f v s => v = (.slice p5856 s6079.2.length c5857 : Value) ∧ s = [], fun f v s => v = (.int .i64 x5860 : Value) ∧ s = [], fun f v s => v = (.int .i64 s6079.1 : Value) ∧ s = [], fun f v s => v = (.int .i64 (w64 (x5860 + s6079.1)) : Value) ∧ s = [], fun f v s => v = (.slice p5856 s6079.2.length c5857 : Value) ∧ s = [], fun f v s => v = (.int .i64 x5861 : Value) ∧ s = [], fun f v s => v = (.int .i64 s6079.1 : Value) ∧ s = [], fun f v s => v = (.int .i64 (w64 (x5861 + s6079.1)) : Value) ∧ s = [], fun f v s => v = (.slice p5856 s6079.2.length c5857 : Value) ∧ s = [], fun f v s => v = (.int .i64 x5861 : Value) ∧ s = [], fun f v s => v = (.int .i64 s6079.1 : Value) ∧ s = [], fun f v s => v = (.int .i64 (w64 (x5861 + s6079.1)) : Value) ∧ s = [], fun f v s => v = (elemP p5856 ((w64 (x5861 + s6079.1)).toNat * 4) : Value) ∧ s = [], fun f v s => v = (.agg #[.int .i64 y6099.Tick, .int .i64 y6099.Guest, .string y6099.Kind, .int .i64 y6099.Value] : Value) ∧ s = [], fun f v s => v = (.slice p5856 s6079.2.length c5857 : Value) ∧ s = [], fun f v s => v = (.int .i64 x5860 : Value) ∧ s = [], fun f v s => v = (.int .i64 s6079.1 : Value) ∧ s = [], fun f v s => v = (.int .i64 (w64 (x5860 + s6079.1)) : Value) ∧ s = [], fun f v s => v = (elemP p5856 ((w64 (x5860 + s6079.1)).toNat * 4) : Value) ∧ s = [], fun f v s => v = (.agg #[.int .i64 y6100.Tick, .int .i64 y6100.Guest, .string y6100.Kind, .int .i64 y6100.Value] : Value) ∧ s = [], fun f v s => v = (elemP p5856 ((w64 (x5860 + s6079.1)).toNat * 4) : Value) ∧ s = [], fun f v s => v = undef ∧ ownS encEvent (s6079.2.set (w64 (x5860 + s6079.1)).toNat y6099) p5856 c5857 s] : List ((Nat → Value) → Value → Seg → Prop)).getD i (fun _ _ _ => False)) (fun j f v => ∃ s, (fun i => ([fun f v s => v = (.slice p5856 s6079.2.length c5857 : Value) ∧ s = [], fun f v s => v = (.int .i64 x5860 : Value) ∧ s = [], fun f v s => v = (.int .i64 s6079.1 : Value) ∧ s = [], fun f v s => v = (.int .i64 (w64 (x5860 + s6079.1)) : Value) ∧ s = [], fun f v s => v = (.slice p5856 s6079.2.length c5857 : Value) ∧ s = [], fun f v s => v = (.int .i64 x5861 : Value) ∧ s = [], fun f v s => v = (.int .i64 s6079.1 : Value) ∧ s = [], fun f v s => v = (.int .i64 (w64 (x5861 + s6079.1)) : Value) ∧ s = [], fun f v s => v = (.slice p5856 s6079.2.length c5857 : Value) ∧ s = [], fun f v s => v = (.int .i64 x5861 : Value) ∧ s = [], fun f v s => v = (.int .i64 s6079.1 : Value) ∧ s = [], fun f v s => v = (.int .i64 (w64 (x5861 + s6079.1)) : Value) ∧ s = [], fun f v s => v = (elemP p5856 ((w64 (x5861 + s6079.1)).toNat * 4) : Value) ∧ s = [], fun f v s => v = (.agg #[.int .i64 y6099.Tick, .int .i64 y6099.Guest, .string y6099.Kind, .int .i64 y6099.Value] : Value) ∧ s = [], fun f v s => v = (.slice p5856 s6079.2.length c5857 : Value) ∧ s = [], fun f v s => v = (.int .i64 x5860 : Value) ∧ s = [], fun f v s => v = (.int .i64 s6079.1 : Value) ∧ s = [], fun f v s => v = (.int .i64 (w64 (x5860 + s6079.1)) : Value) ∧ s = [], fun f v s => v = (elemP p5856 ((w64 (x5860 + s6079.1)).toNat * 4) : Value) ∧ s = [], fun f v s => v = (.agg #[.int .i64 y6100.Tick, .int .i64 y6100.Guest, .string y6100.Kind, .int .i64 y6100.Value] : Value) ∧ s = [], fun f v s => v = (elemP p5856 ((w64 (x5860 + s6079.1)).toNat * 4) : Value) ∧ s = [], fun f v s => v = undef ∧ ownS encEvent (s6079.2.set (w64 (x5860 + s6079.1)).toNat y6099) p5856 c5857 s] : List ((Nat → Value) → Value → Seg → Prop)).getD i (fun _ _ _ => False)) j f v s) [] [4, 7, 19, 21] [21] (fun _ _ _ s h => ⟨s, h⟩) (by kernel_rfl) (by kernel_rfl) M6103 (by kernel_rfl) (by kernel_rfl) (by kernel_rfl) (by kernel_rfl) (allOb_cons ?_ (allOb_cons ?_ (allOb_cons ?_ (allOb_cons ?_ (allOb_cons ?_ (allOb_cons ?_ (allOb_cons ?_ (allOb_cons ?_ (allOb_cons ?_ (allOb_cons ?_ (allOb_cons ?_ (allOb_cons ?_ (allOb_cons ?_ (allOb_cons ?_ (allOb_cons ?_ (allOb_cons ?_ (allOb_cons ?_ (allOb_cons ?_ (allOb_cons ?_ (allOb_cons ?_ (allOb_cons ?_ (allOb_cons ?_ allOb_nil)))))))))))))))))))))) ?_
      · intro g6097 f6098
        intro R w6104 M6105
        refine W_run 1 [(16, .slice p5856 s6079.2.length c5857)] w6104 (by kernel_rfl) ?_
        exact W_nil (ob_end (.slice p5856 s6079.2.length c5857) [] rfl (by kernel_rfl) ⟨by kernel_rfl, rfl⟩ M6105)
      · intro g6097 f6098
        intro R w6108 M6109
        refine W_run 1 [(17, .int .i64 x5860)] w6108 (by kernel_rfl) ?_
        exact W_nil (ob_end (.int .i64 x5860) [] rfl (by kernel_rfl) ⟨by kernel_rfl, rfl⟩ M6109)
      · intro g6097 f6098
        intro R w6112 M6113
        refine W_run 1 [(18, .int .i64 s6079.1)] w6112 (by kernel_rfl) ?_
        exact W_nil (ob_end (.int .i64 s6079.1) [] rfl (by kernel_rfl) ⟨by kernel_rfl, rfl⟩ M6113)
      · intro g6097 f6098
        intro v1_ hb1_
        obtain ⟨rfl, _⟩ := hb1_
        intro v2_ hb2_
        obtain ⟨rfl, _⟩ := hb2_
        intro R w6116 M6117
        refine W_run 1 [(19, .int .i64 (w64 (x5860 + s6079.1)))] w6116 (by kernel_rfl) ?_
        exact W_nil (ob_end (.int .i64 (w64 (x5860 + s6079.1))) [] rfl (by kernel_rfl) ⟨by kernel_rfl, rfl⟩ M6117)
      · intro g6097 f6098
        intro R w6120 M6121
        refine W_run 1 [(20, .slice p5856 s6079.2.length c5857)] w6120 (by kernel_rfl) ?_
        exact W_nil (ob_end (.slice p5856 s6079.2.length c5857) [] rfl (by kernel_rfl) ⟨by kernel_rfl, rfl⟩ M6121)
      · intro g6097 f6098
        intro R w6124 M6125
        refine W_run 1 [(21, .int .i64 x5861)] w6124 (by kernel_rfl) ?_
        exact W_nil (ob_end (.int .i64 x5861) [] rfl (by kernel_rfl) ⟨by kernel_rfl, rfl⟩ M6125)
      · intro g6097 f6098
        intro R w6128 M6129
        refine W_run 1 [(22, .int .i64 s6079.1)] w6128 (by kernel_rfl) ?_
        exact W_nil (ob_end (.int .i64 s6079.1) [] rfl (by kernel_rfl) ⟨by kernel_rfl, rfl⟩ M6129)
      · intro g6097 f6098
        intro v5_ hb5_
        obtain ⟨rfl, _⟩ := hb5_
        intro v6_ hb6_
        obtain ⟨rfl, _⟩ := hb6_
        intro R w6132 M6133
        refine W_run 1 [(23, .int .i64 (w64 (x5861 + s6079.1)))] w6132 (by kernel_rfl) ?_
        exact W_nil (ob_end (.int .i64 (w64 (x5861 + s6079.1))) [] rfl (by kernel_rfl) ⟨by kernel_rfl, rfl⟩ M6133)
      · intro g6097 f6098
        intro R w6136 M6137
        refine W_run 1 [(24, .slice p5856 s6079.2.length c5857)] w6136 (by kernel_rfl) ?_
        exact W_nil (ob_end (.slice p5856 s6079.2.length c5857) [] rfl (by kernel_rfl) ⟨by kernel_rfl, rfl⟩ M6137)
      · intro g6097 f6098
        intro R w6140 M6141
        refine W_run 1 [(25, .int .i64 x5861)] w6140 (by kernel_rfl) ?_
        exact W_nil (ob_end (.int .i64 x5861) [] rfl (by kernel_rfl) ⟨by kernel_rfl, rfl⟩ M6141)
      · intro g6097 f6098
        intro R w6144 M6145
        refine W_run 1 [(26, .int .i64 s6079.1)] w6144 (by kernel_rfl) ?_
        exact W_nil (ob_end (.int .i64 s6079.1) [] rfl (by kernel_rfl) ⟨by kernel_rfl, rfl⟩ M6145)
      · intro g6097 f6098
        intro v9_ hb9_
        obtain ⟨rfl, _⟩ := hb9_
        intro v10_ hb10_
        obtain ⟨rfl, _⟩ := hb10_
        intro R w6148 M6149
        refine W_run 1 [(27, .int .i64 (w64 (x5861 + s6079.1)))] w6148 (by kernel_rfl) ?_
        exact W_nil (ob_end (.int .i64 (w64 (x5861 + s6079.1))) [] rfl (by kernel_rfl) ⟨by kernel_rfl, rfl⟩ M6149)
      · intro g6097 f6098
        intro v8_ hb8_
        obtain ⟨rfl, _⟩ := hb8_
        intro v11_ hb11_
        obtain ⟨rfl, _⟩ := hb11_
        intro R w6152 M6153
        refine W_val (elemP p5856 ((w64 (x5861 + s6079.1)).toNat * 4)) w6152 (by kernel_rfl) (E_index (E := encEvent) _ _ _ s6079.2.length c5857 .i64 (w64 (x5861 + s6079.1)) 4 (y := y6099) rfl (by kernel_rfl) (by kernel_rfl) (by kernel_rfl) (ho6090.rd M6153 1 (by kernel_rfl)) rfl hy6099) ?_
        exact W_nil (ob_end (elemP p5856 ((w64 (x5861 + s6079.1)).toNat * 4)) [] rfl (by kernel_rfl) ⟨by kernel_rfl, rfl⟩ M6153)
      · intro g6097 f6098
        intro v12_ hb12_
        obtain ⟨rfl, _⟩ := hb12_
        intro R w6156 M6157
        refine W_val (.agg #[.int .i64 y6099.Tick, .int .i64 y6099.Guest, .string y6099.Kind, .int .i64 y6099.Value]) w6156 (by kernel_rfl) (E_loadE (E := encEvent) _ _ true 4 (w64 (x5861 + s6079.1)) 0 ((w64 (x5861 + s6079.1)).toNat * 4) y6099 (.agg #[.int .i64 y6099.Tick, .int .i64 y6099.Guest, .string y6099.Kind, .int .i64 y6099.Value]) rfl (by kernel_rfl) (by kernel_rfl) (by kernel_rfl) (ho6090.rd M6157 1 (by kernel_rfl)) hy6099 rfl) ?_
        exact W_nil (ob_end (.agg #[.int .i64 y6099.Tick, .int .i64 y6099.Guest, .string y6099.Kind, .int .i64 y6099.Value]) [] rfl (by kernel_rfl) ⟨by kernel_rfl, rfl⟩ M6157)
      · intro g6097 f6098
        intro R w6160 M6161
        refine W_run 1 [(30, .slice p5856 s6079.2.length c5857)] w6160 (by kernel_rfl) ?_
        exact W_nil (ob_end (.slice p5856 s6079.2.length c5857) [] rfl (by kernel_rfl) ⟨by kernel_rfl, rfl⟩ M6161)
      · intro g6097 f6098
        intro R w6164 M6165
        refine W_run 1 [(31, .int .i64 x5860)] w6164 (by kernel_rfl) ?_
        exact W_nil (ob_end (.int .i64 x5860) [] rfl (by kernel_rfl) ⟨by kernel_rfl, rfl⟩ M6165)
      · intro g6097 f6098
        intro R w6168 M6169
        refine W_run 1 [(32, .int .i64 s6079.1)] w6168 (by kernel_rfl) ?_
        exact W_nil (ob_end (.int .i64 s6079.1) [] rfl (by kernel_rfl) ⟨by kernel_rfl, rfl⟩ M6169)
      · intro g6097 f6098
        intro v15_ hb15_
        obtain ⟨rfl, _⟩ := hb15_
        intro v16_ hb16_
        obtain ⟨rfl, _⟩ := hb16_
        intro R w6172 M6173
        refine W_run 1 [(33, .int .i64 (w64 (x5860 + s6079.1)))] w6172 (by kernel_rfl) ?_
        exact W_nil (ob_end (.int .i64 (w64 (x5860 + s6079.1))) [] rfl (by kernel_rfl) ⟨by kernel_rfl, rfl⟩ M6173)
      · intro g6097 f6098
        intro v14_ hb14_
        obtain ⟨rfl, _⟩ := hb14_
        intro v17_ hb17_
        obtain ⟨rfl, _⟩ := hb17_
        intro R w6176 M6177
        refine W_val (elemP p5856 ((w64 (x5860 + s6079.1)).toNat * 4)) w6176 (by kernel_rfl) (E_index (E := encEvent) _ _ _ s6079.2.length c5857 .i64 (w64 (x5860 + s6079.1)) 4 (y := y6100) rfl (by kernel_rfl) (by kernel_rfl) (by kernel_rfl) (ho6090.rd M6177 1 (by kernel_rfl)) rfl hy6100) ?_
        exact W_nil (ob_end (elemP p5856 ((w64 (x5860 + s6079.1)).toNat * 4)) [] rfl (by kernel_rfl) ⟨by kernel_rfl, rfl⟩ M6177)
      · intro g6097 f6098
        intro v18_ hb18_
        obtain ⟨rfl, _⟩ := hb18_
        intro R w6180 M6181
        refine W_val (.agg #[.int .i64 y6100.Tick, .int .i64 y6100.Guest, .string y6100.Kind, .int .i64 y6100.Value]) w6180 (by kernel_rfl) (E_loadE (E := encEvent) _ _ true 4 (w64 (x5860 + s6079.1)) 0 ((w64 (x5860 + s6079.1)).toNat * 4) y6100 (.agg #[.int .i64 y6100.Tick, .int .i64 y6100.Guest, .string y6100.Kind, .int .i64 y6100.Value]) rfl (by kernel_rfl) (by kernel_rfl) (by kernel_rfl) (ho6090.rd M6181 1 (by kernel_rfl)) hy6100 rfl) ?_
        exact W_nil (ob_end (.agg #[.int .i64 y6100.Tick, .int .i64 y6100.Guest, .string y6100.Kind, .int .i64 y6100.Value]) [] rfl (by kernel_rfl) ⟨by kernel_rfl, rfl⟩ M6181)
      · intro g6097 f6098
        intro v0_ hb0_
        obtain ⟨rfl, _⟩ := hb0_
        intro v3_ hb3_
        obtain ⟨rfl, _⟩ := hb3_
        intro R w6184 M6185
        refine W_val (elemP p5856 ((w64 (x5860 + s6079.1)).toNat * 4)) w6184 (by kernel_rfl) (E_index (E := encEvent) _ _ _ s6079.2.length c5857 .i64 (w64 (x5860 + s6079.1)) 4 (y := y6101) rfl (by kernel_rfl) (by kernel_rfl) (by kernel_rfl) (ho6090.rd M6185 1 (by kernel_rfl)) rfl hy6101) ?_
        exact W_nil (ob_end (elemP p5856 ((w64 (x5860 + s6079.1)).toNat * 4)) [] rfl (by kernel_rfl) ⟨by kernel_rfl, rfl⟩ M6185)
      · intro g6097 f6098
        intro v13_ hb13_
        obtain ⟨rfl, _⟩ := hb13_
        intro v20_ hb20_
        obtain ⟨rfl, _⟩ := hb20_
        intro R w6188 M6189
        refine W_storeE (E := encEvent) _ _ _ true 4 (w64 (x5860 + s6079.1)).toNat 0 ((w64 (x5860 + s6079.1)).toNat * 4) y6101 y6099 (.agg #[.int .i64 y6099.Tick, .int .i64 y6099.Guest, .string y6099.Kind, .int .i64 y6099.Value]) 0 M6189 ho6090 (by kernel_rfl) (by kernel_rfl) rfl (by kernel_rfl) (by kernel_rfl) (by kernel_rfl) (by kernel_rfl) (by kernel_rfl) (by kernel_rfl) (by kernel_rfl) (gxIdx_spec hy6101).2 rfl ?_
        intro w6190 sg6192 ho6193 M6191
        exact W_nil (ob_none sg6192 rfl ⟨rfl, ho6193⟩ M6191)
      intro g6097 f6098
      intro v4_ hb4_
      obtain ⟨rfl, _⟩ := hb4_
      intro v7_ hb7_
      obtain ⟨rfl, _⟩ := hb7_
      intro v19_ hb19_
      obtain ⟨rfl, _⟩ := hb19_
      intro v21_ hb21_
      obtain ⟨rfl, ho6102⟩ := hb21_
      intro w6194 M6195
      have M6196 : Mem (idsOf [sg5858]) w w6194 [(g6097 21)] := M6195
      refine W_conv 0 (.slice p5856 s6079.2.length c5857) (.slice p5856 (s6079.2.set (w64 (x5860 + s6079.1)).toNat y6099).length c5857) (by kernel_rfl) (by rw [@List.length_set _ s6079.2 ((w64 (x5860 + s6079.1)).toNat) y6099]) ?_
      refine W_conv 20 (.slice p5856 s6079.2.length c5857) (.slice p5856 (s6079.2.set (w64 (x5860 + s6079.1)).toNat y6099).length c5857) (by kernel_rfl) (by rw [@List.length_set _ s6079.2 ((w64 (x5860 + s6079.1)).toNat) y6099]) ?_
      obtain ⟨y6197, hy6197, hm⟩ := gx_bind hm
      refine W_val (elemP p5856 ((w64 (x5861 + s6079.1)).toNat * 4)) w6194 (by kernel_rfl) (E_index (E := encEvent) _ _ _ (s6079.2.set (w64 (x5860 + s6079.1)).toNat y6099).length c5857 .i64 (w64 (x5861 + s6079.1)) 4 (y := y6197) rfl (by kernel_rfl) (by kernel_rfl) (by kernel_rfl) (ho6102.rd M6196 0 (by kernel_rfl)) rfl hy6197) ?_
      refine W_storeE (E := encEvent) _ _ _ true 4 (w64 (x5861 + s6079.1)).toNat 0 ((w64 (x5861 + s6079.1)).toNat * 4) y6197 y6100 (.agg #[.int .i64 y6100.Tick, .int .i64 y6100.Guest, .string y6100.Kind, .int .i64 y6100.Value]) 0 M6196 ho6102 (by kernel_rfl) (by kernel_rfl) rfl (by kernel_rfl) (by kernel_rfl) (by kernel_rfl) (by kernel_rfl) (by kernel_rfl) (by kernel_rfl) (by kernel_rfl) (gxIdx_spec hy6197).2 rfl ?_
      intro w6198 sg6200 ho6201 M6199
      refine W_conv 0 (.slice p5856 (s6079.2.set (w64 (x5860 + s6079.1)).toNat y6099).length c5857) (.slice p5856 ((s6079.2.set (w64 (x5860 + s6079.1)).toNat y6099).set (w64 (x5861 + s6079.1)).toNat y6100).length c5857) (by kernel_rfl) (by rw [@List.length_set _ (s6079.2.set (w64 (x5860 + s6079.1)).toNat y6099) ((w64 (x5861 + s6079.1)).toNat) y6100]) ?_
      refine W_conv 20 (.slice p5856 (s6079.2.set (w64 (x5860 + s6079.1)).toNat y6099).length c5857) (.slice p5856 ((s6079.2.set (w64 (x5860 + s6079.1)).toNat y6099).set (w64 (x5861 + s6079.1)).toNat y6100).length c5857) (by kernel_rfl) (by rw [@List.length_set _ (s6079.2.set (w64 (x5860 + s6079.1)).toNat y6099) ((w64 (x5861 + s6079.1)).toNat) y6100]) ?_
      refine W_nil ?_
      refine N_block ?_
      refine N_then ?_
      refine G_region ?_
      refine W_run 3 [(0, .slice p5856 ((s6079.2.set (w64 (x5860 + s6079.1)).toNat y6099).set (w64 (x5861 + s6079.1)).toNat y6100).length c5857), (1, .int .i64 x5860), (2, .int .i64 x5861), (3, .int .i64 x5862), (10, .int .i64 (w64 (s6079.1 + 1)))] w6198 (by kernel_rfl) ?_
      refine W_nil ?_
      obtain rfl := Option.some.inj hm
      exact N_loop fun a ha => ⟨_, rfl, sg6200, ho6201, (List.length_set.trans (List.length_set.trans hl6091)), M6199.pick [0] (by kernel_rfl), ha.sub (by kernel_rfl)⟩
    refine G_cond_f (b := (decide (s6079.1 < x5862))) hc6096 (by kernel_rfl) ?_
    refine G_exit ?_
    refine N_then_exit ?_
    refine N_then_exit ?_
    refine N_block_eq ?_
    obtain rfl := Option.some.inj hm
    obtain rfl := hout6081 _ rfl
    exact N_meet fun a ha => ⟨sg6089, ho6090, hl6091, M6084.pick [0] (by kernel_rfl), ha.sub (by kernel_rfl)⟩
  intro a6202 w6203 ⟨sg6093, ho6094, hl6095, M6204, hS6205⟩
  refine N_use hS6205 ?_
  have hm := hmo6088
  obtain rfl := Option.some.inj hm
  refine N_end [] (RVs_nil) ?_
  exact ⟨sg6093, rfl, ho6094, hl6095, M6204.pick [0] (by kernel_rfl)⟩
theorem c_slices_rotateCmpFunc_113__i_merged_1 (w : World) (x6207 : List Event) (p6209 : Option Addr) (c6210 : Nat) (sg6211 : Seg) (ho6212 : ownS encEvent x6207 p6209 c6210 sg6211) (x6213 : Int) (x6214 : Int) (x6215 : Int) (hA : ∀ q ∈ List.flatten [sg6211], w.heap[q.1]? = some q.2) (hN : (idsOf [sg6211]).Nodup) {r : (List Event)} (hm : M.slices_rotateCmpFunc_113__i_merged_1 x6207 x6213 x6214 x6215 = some r) :
    Calls Try.prog 113 #[.slice p6209 x6207.length c6210, .int .i64 x6213, .int .i64 x6214, .int .i64 x6215, .func (.func 85) #[] #[]] w fun e w' => ∃ (sg6216 : Seg), e = .returned (.tuple #[]) ∧ ownS encEvent r p6209 c6210 sg6216 ∧ r.length = x6207.length ∧ Mem (idsOf [sg6211]) w w' [sg6216] := by
  unfold M.slices_rotateCmpFunc_113__i_merged_1 at hm
  refine C_enter Try.func113 rfl (by kernel_rfl) ?_
  have M0 := Mem.start' w [sg6211] hA hN
  refine G_seq ?_
  refine G_region ?_
  refine W_run 4 [(0, .slice p6209 x6207.length c6210), (2, .int .i64 x6214), (3, .int .i64 x6215), (4, .func (.func 85) #[] #[]), (10, .int .i64 (w64 (x6214 - x6213)))] w (by kernel_rfl) ?_
  refine W_nil ?_
  refine N_then ?_
  refine G_seq ?_
  refine G_region ?_
  refine W_run 4 [(0, .slice p6209 x6207.length c6210), (2, .int .i64 x6214), (4, .func (.func 85) #[] #[]), (10, .int .i64 (w64 (x6214 - x6213))), (11, .int .i64 (w64 (x6215 - x6214)))] w (by kernel_rfl) ?_
  refine W_nil ?_
  refine N_then ?_
  refine G_seq ?_
  obtain ⟨out6309, hw6310, hmo6311⟩ := gx_bind hm
  refine G_meet (fun a w' => ∃ (sg6316 : Seg), ownS encEvent out6309.2 p6209 c6210 sg6316 ∧ out6309.2.length = x6207.length ∧ Mem (idsOf [sg6211]) w w' [sg6316] ∧ Sat Try.f113.ntmps [(0, .slice p6209 out6309.2.length c6210), (2, .int .i64 x6214), (4, .func (.func 85) #[] #[]), (10, .int .i64 out6309.1)] a) ?_ ?_
  · refine G_block ?_
    refine G_while (σ := Int × Int × List Event) (ρ := Int × List Event) (fun s6302 a w' => ∃ (sg6312 : Seg), ownS encEvent s6302.2.2 p6209 c6210 sg6312 ∧ s6302.2.2.length = x6207.length ∧ Mem (idsOf [sg6211]) w w' [sg6312] ∧ Sat Try.f113.ntmps [(0, .slice p6209 s6302.2.2.length c6210), (2, .int .i64 x6214), (4, .func (.func 85) #[] #[]), (10, .int .i64 s6302.1), (11, .int .i64 s6302.2.1)] a) hw6310 (fun a ha => ⟨sg6211, ho6212, rfl, M0.pick [0] (by kernel_rfl), ha.sub (by kernel_rfl)⟩) ?_
    clear hm
    intro s6302 x6303 hm hout6304 a6305 w6306 ⟨sg6312, ho6313, hl6314, M6307, hS6308⟩
    refine G_use hS6308 ?_
    refine G_seq ?_
    refine G_seq ?_
    refine G_region ?_
    refine W_run 3 [(0, .slice p6209 s6302.2.2.length c6210), (2, .int .i64 x6214), (4, .func (.func 85) #[] #[]), (10, .int .i64 s6302.1), (11, .int .i64 s6302.2.1), (20, .bool (s6302.1 != s6302.2.1))] w6306 (by kernel_rfl) ?_
    refine W_nil ?_
    refine N_then ?_
    rcases gx_bif hm with ⟨hc6319, hm⟩ | ⟨hc6319, hm⟩
    · refine G_cond_t (b := (s6302.1 != s6302.2.1)) hc6319 (by kernel_rfl) ?_
      refine G_skip ?_
      refine N_then ?_
      refine G_block ?_
      refine G_seq ?_
      refine G_region ?_
      refine W_run 3 [(0, .slice p6209 s6302.2.2.length c6210), (2, .int .i64 x6214), (4, .func (.func 85) #[] #[]), (10, .int .i64 s6302.1), (11, .int .i64 s6302.2.1), (23, .bool (decide (s6302.1 > s6302.2.1)))] w6306 (by kernel_rfl) ?_
      refine W_nil ?_
      refine N_then ?_
      obtain ⟨o6335, ho6336, hm6337⟩ := gx_bind hm
      refine G_meet (fun a w' => ∃ (sg6338 : Seg), ownS encEvent o6335.2.2 p6209 c6210 sg6338 ∧ o6335.2.2.length = x6207.length ∧ Mem (idsOf [sg6211]) w w' [sg6338] ∧ Sat Try.f113.ntmps [(0, .slice p6209 o6335.2.2.length c6210), (2, .int .i64 x6214), (4, .func (.func 85) #[] #[]), (10, .int .i64 o6335.1), (11, .int .i64 o6335.2.1)] a) ?_ ?_
      · have hm := ho6336
        rcases gx_bif hm with ⟨hc6341, hm⟩ | ⟨hc6341, hm⟩
        · refine G_cond_t (b := (decide (s6302.1 > s6302.2.1))) hc6341 (by kernel_rfl) ?_
          refine G_seq ?_
          refine G_region ?_
          refine W_run 7 [(0, .slice p6209 s6302.2.2.length c6210), (2, .int .i64 x6214), (4, .func (.func 85) #[] #[]), (10, .int .i64 s6302.1), (11, .int .i64 s6302.2.1), (24, .slice p6209 s6302.2.2.length c6210), (27, .int .i64 (w64 (x6214 - s6302.1))), (28, .int .i64 x6214), (29, .int .i64 s6302.2.1), (30, .func (.func 85) #[] #[])] w6306 (by kernel_rfl) ?_
          obtain ⟨r6342, hr6342, hm⟩ := gx_bind hm
          refine W_call 115 #[.slice p6209 s6302.2.2.length c6210, .int .i64 (w64 (x6214 - s6302.1)), .int .i64 x6214, .int .i64 s6302.2.1, .func (.func 85) #[] #[]] (by kernel_rfl) (by kernel_rfl) ?_
          refine (c_slices_swapRangeCmpFunc_115__i_merged_1 w6306 s6302.2.2 p6209 c6210 sg6312 ho6313 (w64 (x6214 - s6302.1)) x6214 s6302.2.1 (M6307.hasPick [0]) (M6307.nodupPick [0] (by kernel_rfl)) hr6342).mono ?_
          rintro e_ w6346 ⟨sg6343, rfl, ho6344, hl6345, K6347⟩
          have M6348 := M6307.callF' [0] [] (by kernel_rfl) K6347
          refine ⟨_, rfl, ?_⟩
          refine W_conv 0 (.slice p6209 s6302.2.2.length c6210) (.slice p6209 r6342.length c6210) (by kernel_rfl) (by first | rw [hl6345] | rw [hl6345]) ?_
          refine W_conv 24 (.slice p6209 s6302.2.2.length c6210) (.slice p6209 r6342.length c6210) (by kernel_rfl) (by first | rw [hl6345] | rw [hl6345]) ?_
          refine W_nil ?_
          refine N_then ?_
          refine G_region ?_
          refine W_run 4 [(0, .slice p6209 r6342.length c6210), (2, .int .i64 x6214), (4, .func (.func 85) #[] #[]), (10, .int .i64 (w64 (s6302.1 - s6302.2.1))), (11, .int .i64 s6302.2.1)] w6346 (by kernel_rfl) ?_
          refine W_nil ?_
          obtain rfl := Option.some.inj hm
          exact N_meet fun a ha => ⟨sg6343, ho6344, (hl6345.trans hl6314), M6348.pick [0] (by kernel_rfl), ha.sub (by kernel_rfl)⟩
        refine G_cond_f (b := (decide (s6302.1 > s6302.2.1))) hc6341 (by kernel_rfl) ?_
        refine G_seq ?_
        refine G_region ?_
        refine W_run 11 [(0, .slice p6209 s6302.2.2.length c6210), (2, .int .i64 x6214), (4, .func (.func 85) #[] #[]), (10, .int .i64 s6302.1), (11, .int .i64 s6302.2.1), (35, .slice p6209 s6302.2.2.length c6210), (38, .int .i64 (w64 (x6214 - s6302.1))), (43, .int .i64 (w64 ((w64 (x6214 + s6302.2.1)) - s6302.1))), (44, .int .i64 s6302.1), (45, .func (.func 85) #[] #[])] w6306 (by kernel_rfl) ?_
        obtain ⟨r6349, hr6349, hm⟩ := gx_bind hm
        refine W_call 115 #[.slice p6209 s6302.2.2.length c6210, .int .i64 (w64 (x6214 - s6302.1)), .int .i64 (w64 ((w64 (x6214 + s6302.2.1)) - s6302.1)), .int .i64 s6302.1, .func (.func 85) #[] #[]] (by kernel_rfl) (by kernel_rfl) ?_
        refine (c_slices_swapRangeCmpFunc_115__i_merged_1 w6306 s6302.2.2 p6209 c6210 sg6312 ho6313 (w64 (x6214 - s6302.1)) (w64 ((w64 (x6214 + s6302.2.1)) - s6302.1)) s6302.1 (M6307.hasPick [0]) (M6307.nodupPick [0] (by kernel_rfl)) hr6349).mono ?_
        rintro e_ w6353 ⟨sg6350, rfl, ho6351, hl6352, K6354⟩
        have M6355 := M6307.callF' [0] [] (by kernel_rfl) K6354
        refine ⟨_, rfl, ?_⟩
        refine W_conv 0 (.slice p6209 s6302.2.2.length c6210) (.slice p6209 r6349.length c6210) (by kernel_rfl) (by first | rw [hl6352] | rw [hl6352]) ?_
        refine W_conv 35 (.slice p6209 s6302.2.2.length c6210) (.slice p6209 r6349.length c6210) (by kernel_rfl) (by first | rw [hl6352] | rw [hl6352]) ?_
        refine W_nil ?_
        refine N_then ?_
        refine G_region ?_
        refine W_run 4 [(0, .slice p6209 r6349.length c6210), (2, .int .i64 x6214), (4, .func (.func 85) #[] #[]), (10, .int .i64 s6302.1), (11, .int .i64 (w64 (s6302.2.1 - s6302.1)))] w6353 (by kernel_rfl) ?_
        refine W_nil ?_
        obtain rfl := Option.some.inj hm
        exact N_meet fun a ha => ⟨sg6350, ho6351, (hl6352.trans hl6314), M6355.pick [0] (by kernel_rfl), ha.sub (by kernel_rfl)⟩
      intro a6358 w6356 ⟨sg6338, ho6339, hl6340, M6357, hS6359⟩
      refine N_use hS6359 ?_
      have hm := hm6337
      refine N_block ?_
      obtain rfl := Option.some.inj hm
      exact N_loop fun a ha => ⟨_, rfl, sg6338, ho6339, hl6340, M6357.pick [0] (by kernel_rfl), ha.sub (by kernel_rfl)⟩
    refine G_cond_f (b := (s6302.1 != s6302.2.1)) hc6319 (by kernel_rfl) ?_
    refine G_exit ?_
    refine N_then_exit ?_
    refine N_then_exit ?_
    refine N_block_eq ?_
    obtain rfl := Option.some.inj hm
    obtain rfl := hout6304 _ rfl
    exact N_meet fun a ha => ⟨sg6312, ho6313, hl6314, M6307.pick [0] (by kernel_rfl), ha.sub (by kernel_rfl)⟩
  intro a6360 w6361 ⟨sg6316, ho6317, hl6318, M6362, hS6363⟩
  refine N_use hS6363 ?_
  have hm := hmo6311
  refine N_then ?_
  refine G_region ?_
  refine W_run 7 [(50, .slice p6209 out6309.2.length c6210), (53, .int .i64 (w64 (x6214 - out6309.1))), (54, .int .i64 x6214), (55, .int .i64 out6309.1), (56, .func (.func 85) #[] #[])] w6361 (by kernel_rfl) ?_
  obtain ⟨r6364, hr6364, hm⟩ := gx_bind hm
  refine W_call 115 #[.slice p6209 out6309.2.length c6210, .int .i64 (w64 (x6214 - out6309.1)), .int .i64 x6214, .int .i64 out6309.1, .func (.func 85) #[] #[]] (by kernel_rfl) (by kernel_rfl) ?_
  refine (c_slices_swapRangeCmpFunc_115__i_merged_1 w6361 out6309.2 p6209 c6210 sg6316 ho6317 (w64 (x6214 - out6309.1)) x6214 out6309.1 (M6362.hasPick [0]) (M6362.nodupPick [0] (by kernel_rfl)) hr6364).mono ?_
  rintro e_ w6368 ⟨sg6365, rfl, ho6366, hl6367, K6369⟩
  have M6370 := M6362.callF' [0] [] (by kernel_rfl) K6369
  refine ⟨_, rfl, ?_⟩
  refine W_conv 50 (.slice p6209 out6309.2.length c6210) (.slice p6209 r6364.length c6210) (by kernel_rfl) (by first | rw [hl6367] | rw [hl6367]) ?_
  refine W_nil ?_
  obtain rfl := Option.some.inj hm
  refine N_end [] (RVs_nil) ?_
  exact ⟨sg6365, rfl, ho6366, (hl6367.trans hl6318), M6370.pick [0] (by kernel_rfl)⟩
theorem c_slices_symMergeCmpFunc_106__i_merged_1 (fuel_ : Nat) : ∀ (w : World) (x5052 : List Event) (p5054 : Option Addr) (c5055 : Nat) (sg5056 : Seg) (ho5057 : ownS encEvent x5052 p5054 c5055 sg5056) (x5058 : Int) (x5059 : Int) (x5060 : Int) (hA : ∀ q ∈ List.flatten [sg5056], w.heap[q.1]? = some q.2) (hN : (idsOf [sg5056]).Nodup) {r : (List Event)} (hm : M.slices_symMergeCmpFunc_106__i_merged_1 fuel_ x5052 x5058 x5059 x5060 = some r),
    Calls Try.prog 106 #[.slice p5054 x5052.length c5055, .int .i64 x5058, .int .i64 x5059, .int .i64 x5060, .func (.func 85) #[] #[]] w fun e w' => ∃ (sg5061 : Seg), e = .returned (.tuple #[]) ∧ ownS encEvent r p5054 c5055 sg5061 ∧ r.length = x5052.length ∧ Mem (idsOf [sg5056]) w w' [sg5061] := by
  induction fuel_ with
  | zero =>
    intro w x5052 p5054 c5055 sg5056 ho5057 x5058 x5059 x5060 hA hN r hm
    unfold M.slices_symMergeCmpFunc_106__i_merged_1 at hm
    cases hm
  | succ n_ ih_ =>
    intro w x5052 p5054 c5055 sg5056 ho5057 x5058 x5059 x5060 hA hN r hm
    unfold M.slices_symMergeCmpFunc_106__i_merged_1 at hm
    refine C_enter Try.func106 rfl (by kernel_rfl) ?_
    have M0 := Mem.start' w [sg5056] hA hN
    refine G_seq ?_
    refine G_seq ?_
    refine G_region ?_
    refine W_run 4 [(0, .slice p5054 x5052.length c5055), (1, .int .i64 x5058), (2, .int .i64 x5059), (3, .int .i64 x5060), (4, .func (.func 85) #[] #[]), (28, .bool ((w64 (x5059 - x5058)) == 1))] w (by kernel_rfl) ?_
    refine W_nil ?_
    refine N_then ?_
    rcases gx_bif hm with ⟨hc5062, hm⟩ | ⟨hc5062, hm⟩
    · refine G_cond_t (b := ((w64 (x5059 - x5058)) == 1)) hc5062 (by kernel_rfl) ?_
      refine G_seq ?_
      refine G_region ?_
      refine W_run 2 [(0, .slice p5054 x5052.length c5055), (1, .int .i64 x5058), (3, .int .i64 x5060), (4, .func (.func 85) #[] #[]), (10, .int .i64 x5059)] w (by kernel_rfl) ?_
      refine W_nil ?_
      refine N_then ?_
      refine G_seq ?_
      refine G_region ?_
      refine W_run 2 [(0, .slice p5054 x5052.length c5055), (1, .int .i64 x5058), (4, .func (.func 85) #[] #[]), (10, .int .i64 x5059), (11, .int .i64 x5060)] w (by kernel_rfl) ?_
      refine W_nil ?_
      refine N_then ?_
      refine G_seq ?_
      obtain ⟨out5106, hw5107, hmo5108⟩ := gx_bind hm
      refine G_meet (fun a w' => Mem (idsOf [sg5056]) w w' [sg5056] ∧ Sat Try.f106.ntmps [(0, .slice p5054 x5052.length c5055), (1, .int .i64 x5058), (10, .int .i64 out5106)] a) ?_ ?_
      · refine G_block ?_
        refine G_while (σ := Int × Int) (ρ := Int) (fun s5099 a w' => Mem (idsOf [sg5056]) w w' [sg5056] ∧ Sat Try.f106.ntmps [(0, .slice p5054 x5052.length c5055), (1, .int .i64 x5058), (4, .func (.func 85) #[] #[]), (10, .int .i64 s5099.1), (11, .int .i64 s5099.2)] a) hw5107 (fun a ha => ⟨M0.pick [0] (by kernel_rfl), ha.sub (by kernel_rfl)⟩) ?_
        clear hm
        intro s5099 x5100 hm hout5101 a5102 w5103 ⟨M5104, hS5105⟩
        refine G_use hS5105 ?_
        refine G_seq ?_
        refine G_seq ?_
        refine G_region ?_
        refine W_run 3 [(0, .slice p5054 x5052.length c5055), (1, .int .i64 x5058), (4, .func (.func 85) #[] #[]), (10, .int .i64 s5099.1), (11, .int .i64 s5099.2), (33, .bool (decide (s5099.1 < s5099.2)))] w5103 (by kernel_rfl) ?_
        refine W_nil ?_
        refine N_then ?_
        rcases gx_bif hm with ⟨hc5110, hm⟩ | ⟨hc5110, hm⟩
        · refine G_cond_t (b := (decide (s5099.1 < s5099.2))) hc5110 (by kernel_rfl) ?_
          refine G_skip ?_
          refine N_then ?_
          refine G_block ?_
          refine G_seq ?_
          refine G_region ?_
          refine W_run 7 [(0, .slice p5054 x5052.length c5055), (1, .int .i64 x5058), (4, .func (.func 85) #[] #[]), (10, .int .i64 s5099.1), (11, .int .i64 s5099.2), (12, .int .i64 (w64 ((IntKind.u64.wrap (w64 (s5099.1 + s5099.2))).fdiv (2 ^ 1))))] w5103 (by kernel_rfl) ?_
          refine W_nil ?_
          refine N_then ?_
          refine G_seq ?_
          refine G_quiet (by kernel_rfl) (by kernel_rfl) M5104 ?_
          refine Z_runs [.func (.func 85) #[] #[], .slice p5054 x5052.length c5055, .int .i64 (w64 ((IntKind.u64.wrap (w64 (s5099.1 + s5099.2))).fdiv (2 ^ 1)))] [(0, .slice p5054 x5052.length c5055), (1, .int .i64 x5058), (4, .func (.func 85) #[] #[]), (10, .int .i64 s5099.1), (11, .int .i64 s5099.2), (12, .int .i64 (w64 ((IntKind.u64.wrap (w64 (s5099.1 + s5099.2))).fdiv (2 ^ 1)))), (40, .func (.func 85) #[] #[]), (41, .slice p5054 x5052.length c5055), (42, .int .i64 (w64 ((IntKind.u64.wrap (w64 (s5099.1 + s5099.2))).fdiv (2 ^ 1))))] (fun w_ => by kernel_rfl) (by kernel_rfl) ?_
          obtain ⟨y5111, hy5111, hm⟩ := gx_bind hm
          refine Z_val (elemP p5054 ((w64 ((IntKind.u64.wrap (w64 (s5099.1 + s5099.2))).fdiv (2 ^ 1))).toNat * 4)) (by kernel_rfl) (fun w_ M_ => (E_index (E := encEvent) _ _ _ x5052.length c5055 .i64 (w64 ((IntKind.u64.wrap (w64 (s5099.1 + s5099.2))).fdiv (2 ^ 1))) 4 (y := y5111) rfl (by kernel_rfl) (by kernel_rfl) (by kernel_rfl) (ho5057.rd M_ 0 (by kernel_rfl)) rfl hy5111)) ?_
          refine Z_val (.agg #[.int .i64 y5111.Tick, .int .i64 y5111.Guest, .string y5111.Kind, .int .i64 y5111.Value]) (by kernel_rfl) (fun w_ M_ => (E_loadE (E := encEvent) _ _ true 4 (w64 ((IntKind.u64.wrap (w64 (s5099.1 + s5099.2))).fdiv (2 ^ 1))) 0 ((w64 ((IntKind.u64.wrap (w64 (s5099.1 + s5099.2))).fdiv (2 ^ 1))).toNat * 4) y5111 (.agg #[.int .i64 y5111.Tick, .int .i64 y5111.Guest, .string y5111.Kind, .int .i64 y5111.Value]) rfl (by kernel_rfl) (by kernel_rfl) (by kernel_rfl) (ho5057.rd M_ 0 (by kernel_rfl)) hy5111 rfl)) ?_
          refine Z_runs [.slice p5054 x5052.length c5055, .int .i64 x5058] [(0, .slice p5054 x5052.length c5055), (1, .int .i64 x5058), (4, .func (.func 85) #[] #[]), (10, .int .i64 s5099.1), (11, .int .i64 s5099.2), (12, .int .i64 (w64 ((IntKind.u64.wrap (w64 (s5099.1 + s5099.2))).fdiv (2 ^ 1)))), (40, .func (.func 85) #[] #[]), (44, .agg #[.int .i64 y5111.Tick, .int .i64 y5111.Guest, .string y5111.Kind, .int .i64 y5111.Value]), (45, .slice p5054 x5052.length c5055), (46, .int .i64 x5058)] (fun w_ => by kernel_rfl) (by kernel_rfl) ?_
          obtain ⟨y5112, hy5112, hm⟩ := gx_bind hm
          refine Z_val (elemP p5054 (x5058.toNat * 4)) (by kernel_rfl) (fun w_ M_ => (E_index (E := encEvent) _ _ _ x5052.length c5055 .i64 x5058 4 (y := y5112) rfl (by kernel_rfl) (by kernel_rfl) (by kernel_rfl) (ho5057.rd M_ 0 (by kernel_rfl)) rfl hy5112)) ?_
          refine Z_val (.agg #[.int .i64 y5112.Tick, .int .i64 y5112.Guest, .string y5112.Kind, .int .i64 y5112.Value]) (by kernel_rfl) (fun w_ M_ => (E_loadE (E := encEvent) _ _ true 4 x5058 0 (x5058.toNat * 4) y5112 (.agg #[.int .i64 y5112.Tick, .int .i64 y5112.Guest, .string y5112.Kind, .int .i64 y5112.Value]) rfl (by kernel_rfl) (by kernel_rfl) (by kernel_rfl) (ho5057.rd M_ 0 (by kernel_rfl)) hy5112 rfl)) ?_
          obtain ⟨r5113, hr5113, hm⟩ := gx_bind hm
          refine Z_call 85 #[.agg #[.int .i64 y5111.Tick, .int .i64 y5111.Guest, .string y5111.Kind, .int .i64 y5111.Value], .agg #[.int .i64 y5112.Tick, .int .i64 y5112.Guest, .string y5112.Kind, .int .i64 y5112.Value]] (.int .i64 r5113) (by kernel_rfl) (fun w_ => by kernel_rfl) (fun w_ M_ => (c_i_merged_1 w_ y5111 y5112 hr5113).mono fun e w2_ h_ => ⟨h_.1, M_.call0 h_.2⟩) ?_
          refine Z_runs [.bool (decide (r5113 < 0))] [(0, .slice p5054 x5052.length c5055), (1, .int .i64 x5058), (4, .func (.func 85) #[] #[]), (10, .int .i64 s5099.1), (11, .int .i64 s5099.2), (12, .int .i64 (w64 ((IntKind.u64.wrap (w64 (s5099.1 + s5099.2))).fdiv (2 ^ 1)))), (50, .bool (decide (r5113 < 0)))] (fun w_ => by kernel_rfl) (by kernel_rfl) ?_
          refine Z_end fun w5117 M5118 => ?_
          refine N_then ?_
          obtain ⟨o5120, ho5121, hm5122⟩ := gx_bind hm
          refine G_meet (fun a w' => Mem (idsOf [sg5056]) w w' [sg5056] ∧ Sat Try.f106.ntmps [(0, .slice p5054 x5052.length c5055), (1, .int .i64 x5058), (4, .func (.func 85) #[] #[]), (10, .int .i64 o5120.1), (11, .int .i64 o5120.2)] a) ?_ ?_
          · have hm := ho5121
            rcases gx_bif hm with ⟨hc5123, hm⟩ | ⟨hc5123, hm⟩
            · refine G_cond_t (b := (decide (r5113 < 0))) hc5123 (by kernel_rfl) ?_
              refine G_region ?_
              refine W_run 3 [(0, .slice p5054 x5052.length c5055), (1, .int .i64 x5058), (4, .func (.func 85) #[] #[]), (10, .int .i64 (w64 ((w64 ((IntKind.u64.wrap (w64 (s5099.1 + s5099.2))).fdiv (2 ^ 1))) + 1))), (11, .int .i64 s5099.2)] w5117 (by kernel_rfl) ?_
              refine W_nil ?_
              obtain rfl := Option.some.inj hm
              exact N_meet fun a ha => ⟨M5118.pick [0] (by kernel_rfl), ha.sub (by kernel_rfl)⟩
            refine G_cond_f (b := (decide (r5113 < 0))) hc5123 (by kernel_rfl) ?_
            refine G_region ?_
            refine W_run 2 [(0, .slice p5054 x5052.length c5055), (1, .int .i64 x5058), (4, .func (.func 85) #[] #[]), (10, .int .i64 s5099.1), (11, .int .i64 (w64 ((IntKind.u64.wrap (w64 (s5099.1 + s5099.2))).fdiv (2 ^ 1))))] w5117 (by kernel_rfl) ?_
            refine W_nil ?_
            obtain rfl := Option.some.inj hm
            exact N_meet fun a ha => ⟨M5118.pick [0] (by kernel_rfl), ha.sub (by kernel_rfl)⟩
          intro a5126 w5124 ⟨M5125, hS5127⟩
          refine N_use hS5127 ?_
          have hm := hm5122
          refine N_block ?_
          obtain rfl := Option.some.inj hm
          exact N_loop fun a ha => ⟨_, rfl, M5125.pick [0] (by kernel_rfl), ha.sub (by kernel_rfl)⟩
        refine G_cond_f (b := (decide (s5099.1 < s5099.2))) hc5110 (by kernel_rfl) ?_
        refine G_exit ?_
        refine N_then_exit ?_
        refine N_then_exit ?_
        refine N_block_eq ?_
        obtain rfl := Option.some.inj hm
        obtain rfl := hout5101 _ rfl
        exact N_meet fun a ha => ⟨M5104.pick [0] (by kernel_rfl), ha.sub (by kernel_rfl)⟩
      intro a5128 w5129 ⟨M5130, hS5131⟩
      refine N_use hS5131 ?_
      have hm := hmo5108
      refine N_then ?_
      refine G_seq ?_
      refine G_seq ?_
      refine G_region ?_
      refine W_run 2 [(0, .slice p5054 x5052.length c5055), (10, .int .i64 out5106), (13, .int .i64 x5058)] w5129 (by kernel_rfl) ?_
      refine W_nil ?_
      refine N_then ?_
      obtain ⟨out5306, hw5307, hmo5308⟩ := gx_bind hm
      refine G_meet (fun a w' => ∃ (sg5313 : Seg), ownS encEvent out5306 p5054 c5055 sg5313 ∧ out5306.length = x5052.length ∧ Mem (idsOf [sg5056]) w w' [sg5313] ∧ Sat Try.f106.ntmps [] a) ?_ ?_
      · refine G_block ?_
        refine G_while (σ := Int × List Event) (ρ := List Event) (fun s5299 a w' => ∃ (sg5309 : Seg), ownS encEvent s5299.2 p5054 c5055 sg5309 ∧ s5299.2.length = x5052.length ∧ Mem (idsOf [sg5056]) w w' [sg5309] ∧ Sat Try.f106.ntmps [(0, .slice p5054 s5299.2.length c5055), (10, .int .i64 out5106), (13, .int .i64 s5299.1)] a) hw5307 (fun a ha => ⟨sg5056, ho5057, rfl, M5130.pick [0] (by kernel_rfl), ha.sub (by kernel_rfl)⟩) ?_
        clear hm
        intro s5299 x5300 hm hout5301 a5302 w5303 ⟨sg5309, ho5310, hl5311, M5304, hS5305⟩
        refine G_use hS5305 ?_
        refine G_seq ?_
        refine G_seq ?_
        refine G_region ?_
        refine W_run 4 [(0, .slice p5054 s5299.2.length c5055), (10, .int .i64 out5106), (13, .int .i64 s5299.1), (58, .bool (decide (s5299.1 < (w64 (out5106 - 1)))))] w5303 (by kernel_rfl) ?_
        refine W_nil ?_
        refine N_then ?_
        rcases gx_bif hm with ⟨hc5316, hm⟩ | ⟨hc5316, hm⟩
        · refine G_cond_t (b := (decide (s5299.1 < (w64 (out5106 - 1))))) hc5316 (by kernel_rfl) ?_
          refine G_skip ?_
          refine N_then ?_
          refine G_seq ?_
          refine G_block ?_
          obtain ⟨y5319, hy5319, hm⟩ := gx_bind hm
          obtain ⟨y5320, hy5320, hm⟩ := gx_bind hm
          obtain ⟨y5321, hy5321, hm⟩ := gx_bind hm
          have M5323 : Mem (idsOf [sg5056]) w w5303 ([] ++ (List.range 16).map (fun i => ([[], [], [], [], [], [], [], [], [], [], [], [], [], [], [], sg5309] : List Seg).getD i [])) := M5304.pick [300000, 300001, 300002, 300003, 300004, 300005, 300006, 300007, 300008, 300009, 300010, 300011, 300012, 300013, 300014, 0] (by kernel_rfl)
          refine G_sub [(0, .slice p5054 s5299.2.length c5055), (10, .int .i64 out5106), (13, .int .i64 s5299.1), (58, .bool (decide (s5299.1 < (w64 (out5106 - 1)))))] (by kernel_rfl) ?_
          refine G_dagL 16 [[], [], [], [], [3], [], [], [6], [5, 7], [8], [], [], [10, 11], [12], [0, 1], [9, 14]] [[], [], [], [], [], [], [], [], [], [], [], [], [], [], [], []] [[], [], [], [], [], [], [], [], [], [], [], [], [], [], [], []] [[], [], [], [], [], [], [], [], [], [], [], [], [], [], [], []] [[], [], [], [], [], [], [], [], [], [], [], [], [], [], [], []] [[], [], [], [], [], [], [], [], [15], [15], [], [], [15], [15], [15], []] (fun i => ([[], [], [], [], [], [], [], [], [], [], [], [], [], [], [], sg5309] : List Seg).getD i []) (fun i => ([fun f v s => v = (.slice p5054 s5299.2.length c5055 : Value) ∧ s = [], fun f v s => v = (.int .i64 s5299.1 : Value) ∧ s = [], fun f v s => v = (.slice p5054 s5299.2.length c5055 : Value) ∧ s = [], fun f v s => v = (.int .i64 s5299.1 : Value) ∧ s = [], fun f v s => v = (.int .i64 (w64 (s5299.1 + 1)) : Value) ∧ s = [], fun f v s => v = (.slice p5054 s5299.2.length c5055 : Value) ∧ s = [], fun f v s => v = (.int .i64 s5299.1 : Value) ∧ s = [], fun f v s => v = (.int .i64 (w64 (s5299.1 + 1)) : Value) ∧ s = [], fun f v s => v = (elemP p5054 ((w64 (s5299.1 + 1)).toNat * 4) : Value) ∧ s = [], fun f v s => v = (.agg #[.int .i64 y5319.Tick, .int .i64 y5319.Guest, .string y5319.Kind, .int .i64 y5319.Value] : Value) ∧ s = [], fun f v s => v = (.slice p5054 s5299.2.length c5055 : Value) ∧ s = [], fun f v s => v = (.int .i64 s5299.1 : Value) ∧ s = [], fun f v s => v = (elemP p5054 (s5299.1.toNat * 4) : Value) ∧ s = [], fun f v s => v = (.agg #[.int .i64 y5320.Tick, .int .i64 y5320.Guest, .string y5320.Kind, .int .i64 y5320.Value] : Value) ∧ s = [], fun f v s => v = (elemP p5054 (s5299.1.toNat * 4) : Value) ∧ s = [], fun f v s => v = undef ∧ ownS encEvent (s5299.2.set s5299.1.toNat y5319) p5054 c5055 s] : List ((Nat → Value) → Value → Seg → Prop)).getD i (fun _ _ _ => False)) (fun j f v => ∃ s, (fun i => ([fun f v s => v = (.slice p5054 s5299.2.length c5055 : Value) ∧ s = [], fun f v s => v = (.int .i64 s5299.1 : Value) ∧ s = [], fun f v s => v = (.slice p5054 s5299.2.length c5055 : Value) ∧ s = [], fun f v s => v = (.int .i64 s5299.1 : Value) ∧ s = [], fun f v s => v = (.int .i64 (w64 (s5299.1 + 1)) : Value) ∧ s = [], fun f v s => v = (.slice p5054 s5299.2.length c5055 : Value) ∧ s = [], fun f v s => v = (.int .i64 s5299.1 : Value) ∧ s = [], fun f v s => v = (.int .i64 (w64 (s5299.1 + 1)) : Value) ∧ s = [], fun f v s => v = (elemP p5054 ((w64 (s5299.1 + 1)).toNat * 4) : Value) ∧ s = [], fun f v s => v = (.agg #[.int .i64 y5319.Tick, .int .i64 y5319.Guest, .string y5319.Kind, .int .i64 y5319.Value] : Value) ∧ s = [], fun f v s => v = (.slice p5054 s5299.2.length c5055 : Value) ∧ s = [], fun f v s => v = (.int .i64 s5299.1 : Value) ∧ s = [], fun f v s => v = (elemP p5054 (s5299.1.toNat * 4) : Value) ∧ s = [], fun f v s => v = (.agg #[.int .i64 y5320.Tick, .int .i64 y5320.Guest, .string y5320.Kind, .int .i64 y5320.Value] : Value) ∧ s = [], fun f v s => v = (elemP p5054 (s5299.1.toNat * 4) : Value) ∧ s = [], fun f v s => v = undef ∧ ownS encEvent (s5299.2.set s5299.1.toNat y5319) p5054 c5055 s] : List ((Nat → Value) → Value → Seg → Prop)).getD i (fun _ _ _ => False)) j f v s) [] [2, 4, 13, 15] [15] (fun _ _ _ s h => ⟨s, h⟩) (by kernel_rfl) (by kernel_rfl) M5323 (by kernel_rfl) (by kernel_rfl) (by kernel_rfl) (by kernel_rfl) (allOb_cons ?_ (allOb_cons ?_ (allOb_cons ?_ (allOb_cons ?_ (allOb_cons ?_ (allOb_cons ?_ (allOb_cons ?_ (allOb_cons ?_ (allOb_cons ?_ (allOb_cons ?_ (allOb_cons ?_ (allOb_cons ?_ (allOb_cons ?_ (allOb_cons ?_ (allOb_cons ?_ (allOb_cons ?_ allOb_nil)))))))))))))))) ?_
          · intro g5317 f5318
            intro R w5324 M5325
            refine W_run 1 [(61, .slice p5054 s5299.2.length c5055)] w5324 (by kernel_rfl) ?_
            exact W_nil (ob_end (.slice p5054 s5299.2.length c5055) [] rfl (by kernel_rfl) ⟨by kernel_rfl, rfl⟩ M5325)
          · intro g5317 f5318
            intro R w5328 M5329
            refine W_run 1 [(62, .int .i64 s5299.1)] w5328 (by kernel_rfl) ?_
            exact W_nil (ob_end (.int .i64 s5299.1) [] rfl (by kernel_rfl) ⟨by kernel_rfl, rfl⟩ M5329)
          · intro g5317 f5318
            intro R w5332 M5333
            refine W_run 1 [(63, .slice p5054 s5299.2.length c5055)] w5332 (by kernel_rfl) ?_
            exact W_nil (ob_end (.slice p5054 s5299.2.length c5055) [] rfl (by kernel_rfl) ⟨by kernel_rfl, rfl⟩ M5333)
          · intro g5317 f5318
            intro R w5336 M5337
            refine W_run 1 [(64, .int .i64 s5299.1)] w5336 (by kernel_rfl) ?_
            exact W_nil (ob_end (.int .i64 s5299.1) [] rfl (by kernel_rfl) ⟨by kernel_rfl, rfl⟩ M5337)
          · intro g5317 f5318
            intro v3_ hb3_
            obtain ⟨rfl, _⟩ := hb3_
            intro R w5340 M5341
            refine W_run 1 [(65, .int .i64 (w64 (s5299.1 + 1)))] w5340 (by kernel_rfl) ?_
            exact W_nil (ob_end (.int .i64 (w64 (s5299.1 + 1))) [] rfl (by kernel_rfl) ⟨by kernel_rfl, rfl⟩ M5341)
          · intro g5317 f5318
            intro R w5344 M5345
            refine W_run 1 [(66, .slice p5054 s5299.2.length c5055)] w5344 (by kernel_rfl) ?_
            exact W_nil (ob_end (.slice p5054 s5299.2.length c5055) [] rfl (by kernel_rfl) ⟨by kernel_rfl, rfl⟩ M5345)
          · intro g5317 f5318
            intro R w5348 M5349
            refine W_run 1 [(67, .int .i64 s5299.1)] w5348 (by kernel_rfl) ?_
            exact W_nil (ob_end (.int .i64 s5299.1) [] rfl (by kernel_rfl) ⟨by kernel_rfl, rfl⟩ M5349)
          · intro g5317 f5318
            intro v6_ hb6_
            obtain ⟨rfl, _⟩ := hb6_
            intro R w5352 M5353
            refine W_run 1 [(68, .int .i64 (w64 (s5299.1 + 1)))] w5352 (by kernel_rfl) ?_
            exact W_nil (ob_end (.int .i64 (w64 (s5299.1 + 1))) [] rfl (by kernel_rfl) ⟨by kernel_rfl, rfl⟩ M5353)
          · intro g5317 f5318
            intro v5_ hb5_
            obtain ⟨rfl, _⟩ := hb5_
            intro v7_ hb7_
            obtain ⟨rfl, _⟩ := hb7_
            intro R w5356 M5357
            refine W_val (elemP p5054 ((w64 (s5299.1 + 1)).toNat * 4)) w5356 (by kernel_rfl) (E_index (E := encEvent) _ _ _ s5299.2.length c5055 .i64 (w64 (s5299.1 + 1)) 4 (y := y5319) rfl (by kernel_rfl) (by kernel_rfl) (by kernel_rfl) (ho5310.rd M5357 1 (by kernel_rfl)) rfl hy5319) ?_
            exact W_nil (ob_end (elemP p5054 ((w64 (s5299.1 + 1)).toNat * 4)) [] rfl (by kernel_rfl) ⟨by kernel_rfl, rfl⟩ M5357)
          · intro g5317 f5318
            intro v8_ hb8_
            obtain ⟨rfl, _⟩ := hb8_
            intro R w5360 M5361
            refine W_val (.agg #[.int .i64 y5319.Tick, .int .i64 y5319.Guest, .string y5319.Kind, .int .i64 y5319.Value]) w5360 (by kernel_rfl) (E_loadE (E := encEvent) _ _ true 4 (w64 (s5299.1 + 1)) 0 ((w64 (s5299.1 + 1)).toNat * 4) y5319 (.agg #[.int .i64 y5319.Tick, .int .i64 y5319.Guest, .string y5319.Kind, .int .i64 y5319.Value]) rfl (by kernel_rfl) (by kernel_rfl) (by kernel_rfl) (ho5310.rd M5361 1 (by kernel_rfl)) hy5319 rfl) ?_
            exact W_nil (ob_end (.agg #[.int .i64 y5319.Tick, .int .i64 y5319.Guest, .string y5319.Kind, .int .i64 y5319.Value]) [] rfl (by kernel_rfl) ⟨by kernel_rfl, rfl⟩ M5361)
          · intro g5317 f5318
            intro R w5364 M5365
            refine W_run 1 [(71, .slice p5054 s5299.2.length c5055)] w5364 (by kernel_rfl) ?_
            exact W_nil (ob_end (.slice p5054 s5299.2.length c5055) [] rfl (by kernel_rfl) ⟨by kernel_rfl, rfl⟩ M5365)
          · intro g5317 f5318
            intro R w5368 M5369
            refine W_run 1 [(72, .int .i64 s5299.1)] w5368 (by kernel_rfl) ?_
            exact W_nil (ob_end (.int .i64 s5299.1) [] rfl (by kernel_rfl) ⟨by kernel_rfl, rfl⟩ M5369)
          · intro g5317 f5318
            intro v10_ hb10_
            obtain ⟨rfl, _⟩ := hb10_
            intro v11_ hb11_
            obtain ⟨rfl, _⟩ := hb11_
            intro R w5372 M5373
            refine W_val (elemP p5054 (s5299.1.toNat * 4)) w5372 (by kernel_rfl) (E_index (E := encEvent) _ _ _ s5299.2.length c5055 .i64 s5299.1 4 (y := y5320) rfl (by kernel_rfl) (by kernel_rfl) (by kernel_rfl) (ho5310.rd M5373 1 (by kernel_rfl)) rfl hy5320) ?_
            exact W_nil (ob_end (elemP p5054 (s5299.1.toNat * 4)) [] rfl (by kernel_rfl) ⟨by kernel_rfl, rfl⟩ M5373)
          · intro g5317 f5318
            intro v12_ hb12_
            obtain ⟨rfl, _⟩ := hb12_
            intro R w5376 M5377
            refine W_val (.agg #[.int .i64 y5320.Tick, .int .i64 y5320.Guest, .string y5320.Kind, .int .i64 y5320.Value]) w5376 (by kernel_rfl) (E_loadE (E := encEvent) _ _ true 4 s5299.1 0 (s5299.1.toNat * 4) y5320 (.agg #[.int .i64 y5320.Tick, .int .i64 y5320.Guest, .string y5320.Kind, .int .i64 y5320.Value]) rfl (by kernel_rfl) (by kernel_rfl) (by kernel_rfl) (ho5310.rd M5377 1 (by kernel_rfl)) hy5320 rfl) ?_
            exact W_nil (ob_end (.agg #[.int .i64 y5320.Tick, .int .i64 y5320.Guest, .string y5320.Kind, .int .i64 y5320.Value]) [] rfl (by kernel_rfl) ⟨by kernel_rfl, rfl⟩ M5377)
          · intro g5317 f5318
            intro v0_ hb0_
            obtain ⟨rfl, _⟩ := hb0_
            intro v1_ hb1_
            obtain ⟨rfl, _⟩ := hb1_
            intro R w5380 M5381
            refine W_val (elemP p5054 (s5299.1.toNat * 4)) w5380 (by kernel_rfl) (E_index (E := encEvent) _ _ _ s5299.2.length c5055 .i64 s5299.1 4 (y := y5321) rfl (by kernel_rfl) (by kernel_rfl) (by kernel_rfl) (ho5310.rd M5381 1 (by kernel_rfl)) rfl hy5321) ?_
            exact W_nil (ob_end (elemP p5054 (s5299.1.toNat * 4)) [] rfl (by kernel_rfl) ⟨by kernel_rfl, rfl⟩ M5381)
          · intro g5317 f5318
            intro v9_ hb9_
            obtain ⟨rfl, _⟩ := hb9_
            intro v14_ hb14_
            obtain ⟨rfl, _⟩ := hb14_
            intro R w5384 M5385
            refine W_storeE (E := encEvent) _ _ _ true 4 s5299.1.toNat 0 (s5299.1.toNat * 4) y5321 y5319 (.agg #[.int .i64 y5319.Tick, .int .i64 y5319.Guest, .string y5319.Kind, .int .i64 y5319.Value]) 0 M5385 ho5310 (by kernel_rfl) (by kernel_rfl) rfl (by kernel_rfl) (by kernel_rfl) (by kernel_rfl) (by kernel_rfl) (by kernel_rfl) (by kernel_rfl) (by kernel_rfl) (gxIdx_spec hy5321).2 rfl ?_
            intro w5386 sg5388 ho5389 M5387
            exact W_nil (ob_none sg5388 rfl ⟨rfl, ho5389⟩ M5387)
          intro g5317 f5318
          intro v2_ hb2_
          obtain ⟨rfl, _⟩ := hb2_
          intro v4_ hb4_
          obtain ⟨rfl, _⟩ := hb4_
          intro v13_ hb13_
          obtain ⟨rfl, _⟩ := hb13_
          intro v15_ hb15_
          obtain ⟨rfl, ho5322⟩ := hb15_
          intro w5390 M5391
          have M5392 : Mem (idsOf [sg5056]) w w5390 [(g5317 15)] := M5391
          refine W_conv 0 (.slice p5054 s5299.2.length c5055) (.slice p5054 (s5299.2.set s5299.1.toNat y5319).length c5055) (by kernel_rfl) (by rw [@List.length_set _ s5299.2 s5299.1.toNat y5319]) ?_
          refine W_conv 63 (.slice p5054 s5299.2.length c5055) (.slice p5054 (s5299.2.set s5299.1.toNat y5319).length c5055) (by kernel_rfl) (by rw [@List.length_set _ s5299.2 s5299.1.toNat y5319]) ?_
          obtain ⟨y5393, hy5393, hm⟩ := gx_bind hm
          refine W_val (elemP p5054 ((w64 (s5299.1 + 1)).toNat * 4)) w5390 (by kernel_rfl) (E_index (E := encEvent) _ _ _ (s5299.2.set s5299.1.toNat y5319).length c5055 .i64 (w64 (s5299.1 + 1)) 4 (y := y5393) rfl (by kernel_rfl) (by kernel_rfl) (by kernel_rfl) (ho5322.rd M5392 0 (by kernel_rfl)) rfl hy5393) ?_
          refine W_storeE (E := encEvent) _ _ _ true 4 (w64 (s5299.1 + 1)).toNat 0 ((w64 (s5299.1 + 1)).toNat * 4) y5393 y5320 (.agg #[.int .i64 y5320.Tick, .int .i64 y5320.Guest, .string y5320.Kind, .int .i64 y5320.Value]) 0 M5392 ho5322 (by kernel_rfl) (by kernel_rfl) rfl (by kernel_rfl) (by kernel_rfl) (by kernel_rfl) (by kernel_rfl) (by kernel_rfl) (by kernel_rfl) (by kernel_rfl) (gxIdx_spec hy5393).2 rfl ?_
          intro w5394 sg5396 ho5397 M5395
          refine W_conv 0 (.slice p5054 (s5299.2.set s5299.1.toNat y5319).length c5055) (.slice p5054 ((s5299.2.set s5299.1.toNat y5319).set (w64 (s5299.1 + 1)).toNat y5320).length c5055) (by kernel_rfl) (by rw [@List.length_set _ (s5299.2.set s5299.1.toNat y5319) ((w64 (s5299.1 + 1)).toNat) y5320]) ?_
          refine W_conv 63 (.slice p5054 (s5299.2.set s5299.1.toNat y5319).length c5055) (.slice p5054 ((s5299.2.set s5299.1.toNat y5319).set (w64 (s5299.1 + 1)).toNat y5320).length c5055) (by kernel_rfl) (by rw [@List.length_set _ (s5299.2.set s5299.1.toNat y5319) ((w64 (s5299.1 + 1)).toNat) y5320]) ?_
          refine W_nil ?_
          refine N_block ?_
          refine N_then ?_
          refine G_region ?_
          refine W_run 3 [(0, .slice p5054 ((s5299.2.set s5299.1.toNat y5319).set (w64 (s5299.1 + 1)).toNat y5320).length c5055), (10, .int .i64 out5106), (13, .int .i64 (w64 (s5299.1 + 1)))] w5394 (by kernel_rfl) ?_
          refine W_nil ?_
          obtain rfl := Option.some.inj hm
          exact N_loop fun a ha => ⟨_, rfl, sg5396, ho5397, (List.length_set.trans (List.length_set.trans hl5311)), M5395.pick [0] (by kernel_rfl), ha.sub (by kernel_rfl)⟩
        refine G_cond_f (b := (decide (s5299.1 < (w64 (out5106 - 1))))) hc5316 (by kernel_rfl) ?_
        refine G_exit ?_
        refine N_then_exit ?_
        refine N_then_exit ?_
        refine N_block_eq ?_
        obtain rfl := Option.some.inj hm
        obtain rfl := hout5301 _ rfl
        exact N_meet fun a ha => ⟨sg5309, ho5310, hl5311, M5304.pick [0] (by kernel_rfl), ha.sub (by kernel_rfl)⟩
      intro a5398 w5399 ⟨sg5313, ho5314, hl5315, M5400, hS5401⟩
      refine N_use hS5401 ?_
      have hm := hmo5308
      refine N_then ?_
      refine G_ret ?_
      refine N_then_ret ?_
      obtain rfl := Option.some.inj hm
      refine N_ret [] (RVs_nil) ?_
      exact ⟨sg5313, rfl, ho5314, hl5315, M5400.pick [0] (by kernel_rfl)⟩
    refine G_cond_f (b := ((w64 (x5059 - x5058)) == 1)) hc5062 (by kernel_rfl) ?_
    refine G_skip ?_
    refine N_then ?_
    refine G_seq ?_
    refine G_seq ?_
    refine G_region ?_
    refine W_run 4 [(0, .slice p5054 x5052.length c5055), (1, .int .i64 x5058), (2, .int .i64 x5059), (3, .int .i64 x5060), (4, .func (.func 85) #[] #[]), (80, .bool ((w64 (x5060 - x5059)) == 1))] w (by kernel_rfl) ?_
    refine W_nil ?_
    refine N_then ?_
    rcases gx_bif hm with ⟨hc5402, hm⟩ | ⟨hc5402, hm⟩
    · refine G_cond_t (b := ((w64 (x5060 - x5059)) == 1)) hc5402 (by kernel_rfl) ?_
      refine G_seq ?_
      refine G_region ?_
      refine W_run 2 [(0, .slice p5054 x5052.length c5055), (2, .int .i64 x5059), (4, .func (.func 85) #[] #[]), (14, .int .i64 x5058)] w (by kernel_rfl) ?_
      refine W_nil ?_
      refine N_then ?_
      refine G_seq ?_
      refine G_region ?_
      refine W_run 2 [(0, .slice p5054 x5052.length c5055), (2, .int .i64 x5059), (4, .func (.func 85) #[] #[]), (14, .int .i64 x5058), (15, .int .i64 x5059)] w (by kernel_rfl) ?_
      refine W_nil ?_
      refine N_then ?_
      refine G_seq ?_
      obtain ⟨out5446, hw5447, hmo5448⟩ := gx_bind hm
      refine G_meet (fun a w' => Mem (idsOf [sg5056]) w w' [sg5056] ∧ Sat Try.f106.ntmps [(0, .slice p5054 x5052.length c5055), (2, .int .i64 x5059), (14, .int .i64 out5446)] a) ?_ ?_
      · refine G_block ?_
        refine G_while (σ := Int × Int) (ρ := Int) (fun s5439 a w' => Mem (idsOf [sg5056]) w w' [sg5056] ∧ Sat Try.f106.ntmps [(0, .slice p5054 x5052.length c5055), (2, .int .i64 x5059), (4, .func (.func 85) #[] #[]), (14, .int .i64 s5439.1), (15, .int .i64 s5439.2)] a) hw5447 (fun a ha => ⟨M0.pick [0] (by kernel_rfl), ha.sub (by kernel_rfl)⟩) ?_
        clear hm
        intro s5439 x5440 hm hout5441 a5442 w5443 ⟨M5444, hS5445⟩
        refine G_use hS5445 ?_
        refine G_seq ?_
        refine G_seq ?_
        refine G_region ?_
        refine W_run 3 [(0, .slice p5054 x5052.length c5055), (2, .int .i64 x5059), (4, .func (.func 85) #[] #[]), (14, .int .i64 s5439.1), (15, .int .i64 s5439.2), (85, .bool (decide (s5439.1 < s5439.2)))] w5443 (by kernel_rfl) ?_
        refine W_nil ?_
        refine N_then ?_
        rcases gx_bif hm with ⟨hc5450, hm⟩ | ⟨hc5450, hm⟩
        · refine G_cond_t (b := (decide (s5439.1 < s5439.2))) hc5450 (by kernel_rfl) ?_
          refine G_skip ?_
          refine N_then ?_
          refine G_block ?_
          refine G_seq ?_
          refine G_region ?_
          refine W_run 7 [(0, .slice p5054 x5052.length c5055), (2, .int .i64 x5059), (4, .func (.func 85) #[] #[]), (14, .int .i64 s5439.1), (15, .int .i64 s5439.2), (16, .int .i64 (w64 ((IntKind.u64.wrap (w64 (s5439.1 + s5439.2))).fdiv (2 ^ 1))))] w5443 (by kernel_rfl) ?_
          refine W_nil ?_
          refine N_then ?_
          refine G_seq ?_
          refine G_quiet (by kernel_rfl) (by kernel_rfl) M5444 ?_
          refine Z_runs [.func (.func 85) #[] #[], .slice p5054 x5052.length c5055, .int .i64 x5059] [(0, .slice p5054 x5052.length c5055), (2, .int .i64 x5059), (4, .func (.func 85) #[] #[]), (14, .int .i64 s5439.1), (15, .int .i64 s5439.2), (16, .int .i64 (w64 ((IntKind.u64.wrap (w64 (s5439.1 + s5439.2))).fdiv (2 ^ 1)))), (92, .func (.func 85) #[] #[]), (93, .slice p5054 x5052.length c5055), (94, .int .i64 x5059)] (fun w_ => by kernel_rfl) (by kernel_rfl) ?_
          obtain ⟨y5451, hy5451, hm⟩ := gx_bind hm
          refine Z_val (elemP p5054 (x5059.toNat * 4)) (by kernel_rfl) (fun w_ M_ => (E_index (E := encEvent) _ _ _ x5052.length c5055 .i64 x5059 4 (y := y5451) rfl (by kernel_rfl) (by kernel_rfl) (by kernel_rfl) (ho5057.rd M_ 0 (by kernel_rfl)) rfl hy5451)) ?_
          refine Z_val (.agg #[.int .i64 y5451.Tick, .int .i64 y5451.Guest, .string y5451.Kind, .int .i64 y5451.Value]) (by kernel_rfl) (fun w_ M_ => (E_loadE (E := encEvent) _ _ true 4 x5059 0 (x5059.toNat * 4) y5451 (.agg #[.int .i64 y5451.Tick, .int .i64 y5451.Guest, .string y5451.Kind, .int .i64 y5451.Value]) rfl (by kernel_rfl) (by kernel_rfl) (by kernel_rfl) (ho5057.rd M_ 0 (by kernel_rfl)) hy5451 rfl)) ?_
          refine Z_runs [.slice p5054 x5052.length c5055, .int .i64 (w64 ((IntKind.u64.wrap (w64 (s5439.1 + s5439.2))).fdiv (2 ^ 1)))] [(0, .slice p5054 x5052.length c5055), (2, .int .i64 x5059), (4, .func (.func 85) #[] #[]), (14, .int .i64 s5439.1), (15, .int .i64 s5439.2), (16, .int .i64 (w64 ((IntKind.u64.wrap (w64 (s5439.1 + s5439.2))).fdiv (2 ^ 1)))), (92, .func (.func 85) #[] #[]), (96, .agg #[.int .i64 y5451.Tick, .int .i64 y5451.Guest, .string y5451.Kind, .int .i64 y5451.Value]), (97, .slice p5054 x5052.length c5055), (98, .int .i64 (w64 ((IntKind.u64.wrap (w64 (s5439.1 + s5439.2))).fdiv (2 ^ 1))))] (fun w_ => by kernel_rfl) (by kernel_rfl) ?_
          obtain ⟨y5452, hy5452, hm⟩ := gx_bind hm
          refine Z_val (elemP p5054 ((w64 ((IntKind.u64.wrap (w64 (s5439.1 + s5439.2))).fdiv (2 ^ 1))).toNat * 4)) (by kernel_rfl) (fun w_ M_ => (E_index (E := encEvent) _ _ _ x5052.length c5055 .i64 (w64 ((IntKind.u64.wrap (w64 (s5439.1 + s5439.2))).fdiv (2 ^ 1))) 4 (y := y5452) rfl (by kernel_rfl) (by kernel_rfl) (by kernel_rfl) (ho5057.rd M_ 0 (by kernel_rfl)) rfl hy5452)) ?_
          refine Z_val (.agg #[.int .i64 y5452.Tick, .int .i64 y5452.Guest, .string y5452.Kind, .int .i64 y5452.Value]) (by kernel_rfl) (fun w_ M_ => (E_loadE (E := encEvent) _ _ true 4 (w64 ((IntKind.u64.wrap (w64 (s5439.1 + s5439.2))).fdiv (2 ^ 1))) 0 ((w64 ((IntKind.u64.wrap (w64 (s5439.1 + s5439.2))).fdiv (2 ^ 1))).toNat * 4) y5452 (.agg #[.int .i64 y5452.Tick, .int .i64 y5452.Guest, .string y5452.Kind, .int .i64 y5452.Value]) rfl (by kernel_rfl) (by kernel_rfl) (by kernel_rfl) (ho5057.rd M_ 0 (by kernel_rfl)) hy5452 rfl)) ?_
          obtain ⟨r5453, hr5453, hm⟩ := gx_bind hm
          refine Z_call 85 #[.agg #[.int .i64 y5451.Tick, .int .i64 y5451.Guest, .string y5451.Kind, .int .i64 y5451.Value], .agg #[.int .i64 y5452.Tick, .int .i64 y5452.Guest, .string y5452.Kind, .int .i64 y5452.Value]] (.int .i64 r5453) (by kernel_rfl) (fun w_ => by kernel_rfl) (fun w_ M_ => (c_i_merged_1 w_ y5451 y5452 hr5453).mono fun e w2_ h_ => ⟨h_.1, M_.call0 h_.2⟩) ?_
          refine Z_runs [.bool (decide (r5453 < 0)), .bool (!(decide (r5453 < 0)))] [(0, .slice p5054 x5052.length c5055), (2, .int .i64 x5059), (4, .func (.func 85) #[] #[]), (14, .int .i64 s5439.1), (15, .int .i64 s5439.2), (16, .int .i64 (w64 ((IntKind.u64.wrap (w64 (s5439.1 + s5439.2))).fdiv (2 ^ 1)))), (103, .bool (!(decide (r5453 < 0))))] (fun w_ => by kernel_rfl) (by kernel_rfl) ?_
          refine Z_end fun w5457 M5458 => ?_
          refine N_then ?_
          obtain ⟨o5460, ho5461, hm5462⟩ := gx_bind hm
          refine G_meet (fun a w' => Mem (idsOf [sg5056]) w w' [sg5056] ∧ Sat Try.f106.ntmps [(0, .slice p5054 x5052.length c5055), (2, .int .i64 x5059), (4, .func (.func 85) #[] #[]), (14, .int .i64 o5460.1), (15, .int .i64 o5460.2)] a) ?_ ?_
          · have hm := ho5461
            rcases gx_bif hm with ⟨hc5463, hm⟩ | ⟨hc5463, hm⟩
            · refine G_cond_t (b := (!(decide (r5453 < 0)))) hc5463 (by kernel_rfl) ?_
              refine G_region ?_
              refine W_run 3 [(0, .slice p5054 x5052.length c5055), (2, .int .i64 x5059), (4, .func (.func 85) #[] #[]), (14, .int .i64 (w64 ((w64 ((IntKind.u64.wrap (w64 (s5439.1 + s5439.2))).fdiv (2 ^ 1))) + 1))), (15, .int .i64 s5439.2)] w5457 (by kernel_rfl) ?_
              refine W_nil ?_
              obtain rfl := Option.some.inj hm
              exact N_meet fun a ha => ⟨M5458.pick [0] (by kernel_rfl), ha.sub (by kernel_rfl)⟩
            refine G_cond_f (b := (!(decide (r5453 < 0)))) hc5463 (by kernel_rfl) ?_
            refine G_region ?_
            refine W_run 2 [(0, .slice p5054 x5052.length c5055), (2, .int .i64 x5059), (4, .func (.func 85) #[] #[]), (14, .int .i64 s5439.1), (15, .int .i64 (w64 ((IntKind.u64.wrap (w64 (s5439.1 + s5439.2))).fdiv (2 ^ 1))))] w5457 (by kernel_rfl) ?_
            refine W_nil ?_
            obtain rfl := Option.some.inj hm
            exact N_meet fun a ha => ⟨M5458.pick [0] (by kernel_rfl), ha.sub (by kernel_rfl)⟩
          intro a5466 w5464 ⟨M5465, hS5467⟩
          refine N_use hS5467 ?_
          have hm := hm5462
          refine N_block ?_
          obtain rfl := Option.some.inj hm
          exact N_loop fun a ha => ⟨_, rfl, M5465.pick [0] (by kernel_rfl), ha.sub (by kernel_rfl)⟩
        refine G_cond_f (b := (decide (s5439.1 < s5439.2))) hc5450 (by kernel_rfl) ?_
        refine G_exit ?_
        refine N_then_exit ?_
        refine N_then_exit ?_
        refine N_block_eq ?_
        obtain rfl := Option.some.inj hm
        obtain rfl := hout5441 _ rfl
        exact N_meet fun a ha => ⟨M5444.pick [0] (by kernel_rfl), ha.sub (by kernel_rfl)⟩
      intro a5468 w5469 ⟨M5470, hS5471⟩
      refine N_use hS5471 ?_
      have hm := hmo5448
      refine N_then ?_
      refine G_seq ?_
      refine G_seq ?_
      refine G_region ?_
      refine W_run 2 [(0, .slice p5054 x5052.length c5055), (14, .int .i64 out5446), (17, .int .i64 x5059)] w5469 (by kernel_rfl) ?_
      refine W_nil ?_
      refine N_then ?_
      obtain ⟨out5646, hw5647, hmo5648⟩ := gx_bind hm
      refine G_meet (fun a w' => ∃ (sg5653 : Seg), ownS encEvent out5646 p5054 c5055 sg5653 ∧ out5646.length = x5052.length ∧ Mem (idsOf [sg5056]) w w' [sg5653] ∧ Sat Try.f106.ntmps [] a) ?_ ?_
      · refine G_block ?_
        refine G_while (σ := Int × List Event) (ρ := List Event) (fun s5639 a w' => ∃ (sg5649 : Seg), ownS encEvent s5639.2 p5054 c5055 sg5649 ∧ s5639.2.length = x5052.length ∧ Mem (idsOf [sg5056]) w w' [sg5649] ∧ Sat Try.f106.ntmps [(0, .slice p5054 s5639.2.length c5055), (14, .int .i64 out5446), (17, .int .i64 s5639.1)] a) hw5647 (fun a ha => ⟨sg5056, ho5057, rfl, M5470.pick [0] (by kernel_rfl), ha.sub (by kernel_rfl)⟩) ?_
        clear hm
        intro s5639 x5640 hm hout5641 a5642 w5643 ⟨sg5649, ho5650, hl5651, M5644, hS5645⟩
        refine G_use hS5645 ?_
        refine G_seq ?_
        refine G_seq ?_
        refine G_region ?_
        refine W_run 3 [(0, .slice p5054 s5639.2.length c5055), (14, .int .i64 out5446), (17, .int .i64 s5639.1), (110, .bool (decide (s5639.1 > out5446)))] w5643 (by kernel_rfl) ?_
        refine W_nil ?_
        refine N_then ?_
        rcases gx_bif hm with ⟨hc5656, hm⟩ | ⟨hc5656, hm⟩
        · refine G_cond_t (b := (decide (s5639.1 > out5446))) hc5656 (by kernel_rfl) ?_
          refine G_skip ?_
          refine N_then ?_
          refine G_seq ?_
          refine G_block ?_
          obtain ⟨y5659, hy5659, hm⟩ := gx_bind hm
          obtain ⟨y5660, hy5660, hm⟩ := gx_bind hm
          obtain ⟨y5661, hy5661, hm⟩ := gx_bind hm
          have M5663 : Mem (idsOf [sg5056]) w w5643 ([] ++ (List.range 16).map (fun i => ([[], [], [], [], [], [], [], [], [], [], [], [], [], [], [], sg5649] : List Seg).getD i [])) := M5644.pick [300000, 300001, 300002, 300003, 300004, 300005, 300006, 300007, 300008, 300009, 300010, 300011, 300012, 300013, 300014, 0] (by kernel_rfl)
          refine G_sub [(0, .slice p5054 s5639.2.length c5055), (14, .int .i64 out5446), (17, .int .i64 s5639.1), (110, .bool (decide (s5639.1 > out5446)))] (by kernel_rfl) ?_
          refine G_dagL 16 [[], [], [], [], [3], [], [], [6], [5, 7], [8], [], [], [10, 11], [12], [0, 1], [9, 14]] [[], [], [], [], [], [], [], [], [], [], [], [], [], [], [], []] [[], [], [], [], [], [], [], [], [], [], [], [], [], [], [], []] [[], [], [], [], [], [], [], [], [], [], [], [], [], [], [], []] [[], [], [], [], [], [], [], [], [], [], [], [], [], [], [], []] [[], [], [], [], [], [], [], [], [15], [15], [], [], [15], [15], [15], []] (fun i => ([[], [], [], [], [], [], [], [], [], [], [], [], [], [], [], sg5649] : List Seg).getD i []) (fun i => ([fun f v s => v = (.slice p5054 s5639.2.length c5055 : Value) ∧ s = [], fun f v s => v = (.int .i64 s5639.1 : Value) ∧ s = [], fun f v s => v = (.slice p5054 s5639.2.length c5055 : Value) ∧ s = [], fun f v s => v = (.int .i64 s5639.1 : Value) ∧ s = [], fun f v s => v = (.int .i64 (w64 (s5639.1 - 1)) : Value) ∧ s = [], fun f v s => v = (.slice p5054 s5639.2.length c5055 : Value) ∧ s = [], fun f v s => v = (.int .i64 s5639.1 : Value) ∧ s = [], fun f v s => v = (.int .i64 (w64 (s5639.1 - 1)) : Value) ∧ s = [], fun f v s => v = (elemP p5054 ((w64 (s5639.1 - 1)).toNat * 4) : Value) ∧ s = [], fun f v s => v = (.agg #[.int .i64 y5659.Tick, .int .i64 y5659.Guest, .string y5659.Kind, .int .i64 y5659.Value] : Value) ∧ s = [], fun f v s => v = (.slice p5054 s5639.2.length c5055 : Value) ∧ s = [], fun f v s => v = (.int .i64 s5639.1 : Value) ∧ s = [], fun f v s => v = (elemP p5054 (s5639.1.toNat * 4) : Value) ∧ s = [], fun f v s => v = (.agg #[.int .i64 y5660.Tick, .int .i64 y5660.Guest, .string y5660.Kind, .int .i64 y5660.Value] : Value) ∧ s = [], fun f v s => v = (elemP p5054 (s5639.1.toNat * 4) : Value) ∧ s = [], fun f v s => v = undef ∧ ownS encEvent (s5639.2.set s5639.1.toNat y5659) p5054 c5055 s] : List ((Nat → Value) → Value → Seg → Prop)).getD i (fun _ _ _ => False)) (fun j f v => ∃ s, (fun i => ([fun f v s => v = (.slice p5054 s5639.2.length c5055 : Value) ∧ s = [], fun f v s => v = (.int .i64 s5639.1 : Value) ∧ s = [], fun f v s => v = (.slice p5054 s5639.2.length c5055 : Value) ∧ s = [], fun f v s => v = (.int .i64 s5639.1 : Value) ∧ s = [], fun f v s => v = (.int .i64 (w64 (s5639.1 - 1)) : Value) ∧ s = [], fun f v s => v = (.slice p5054 s5639.2.length c5055 : Value) ∧ s = [], fun f v s => v = (.int .i64 s5639.1 : Value) ∧ s = [], fun f v s => v = (.int .i64 (w64 (s5639.1 - 1)) : Value) ∧ s = [], fun f v s => v = (elemP p5054 ((w64 (s5639.1 - 1)).toNat * 4) : Value) ∧ s = [], fun f v s => v = (.agg #[.int .i64 y5659.Tick, .int .i64 y5659.Guest, .string y5659.Kind, .int .i64 y5659.Value] : Value) ∧ s = [], fun f v s => v = (.slice p5054 s5639.2.length c5055 : Value) ∧ s = [], fun f v s => v = (.int .i64 s5639.1 : Value) ∧ s = [], fun f v s => v = (elemP p5054 (s5639.1.toNat * 4) : Value) ∧ s = [], fun f v s => v = (.agg #[.int .i64 y5660.Tick, .int .i64 y5660.Guest, .string y5660.Kind, .int .i64 y5660.Value] : Value) ∧ s = [], fun f v s => v = (elemP p5054 (s5639.1.toNat * 4) : Value) ∧ s = [], fun f v s => v = undef ∧ ownS encEvent (s5639.2.set s5639.1.toNat y5659) p5054 c5055 s] : List ((Nat → Value) → Value → Seg → Prop)).getD i (fun _ _ _ => False)) j f v s) [] [2, 4, 13, 15] [15] (fun _ _ _ s h => ⟨s, h⟩) (by kernel_rfl) (by kernel_rfl) M5663 (by kernel_rfl) (by kernel_rfl) (by kernel_rfl) (by kernel_rfl) (allOb_cons ?_ (allOb_cons ?_ (allOb_cons ?_ (allOb_cons ?_ (allOb_cons ?_ (allOb_cons ?_ (allOb_cons ?_ (allOb_cons ?_ (allOb_cons ?_ (allOb_cons ?_ (allOb_cons ?_ (allOb_cons ?_ (allOb_cons ?_ (allOb_cons ?_ (allOb_cons ?_ (allOb_cons ?_ allOb_nil)))))))))))))))) ?_
          · intro g5657 f5658
            intro R w5664 M5665
            refine W_run 1 [(113, .slice p5054 s5639.2.length c5055)] w5664 (by kernel_rfl) ?_
            exact W_nil (ob_end (.slice p5054 s5639.2.length c5055) [] rfl (by kernel_rfl) ⟨by kernel_rfl, rfl⟩ M5665)
          · intro g5657 f5658
            intro R w5668 M5669
            refine W_run 1 [(114, .int .i64 s5639.1)] w5668 (by kernel_rfl) ?_
            exact W_nil (ob_end (.int .i64 s5639.1) [] rfl (by kernel_rfl) ⟨by kernel_rfl, rfl⟩ M5669)
          · intro g5657 f5658
            intro R w5672 M5673
            refine W_run 1 [(115, .slice p5054 s5639.2.length c5055)] w5672 (by kernel_rfl) ?_
            exact W_nil (ob_end (.slice p5054 s5639.2.length c5055) [] rfl (by kernel_rfl) ⟨by kernel_rfl, rfl⟩ M5673)
          · intro g5657 f5658
            intro R w5676 M5677
            refine W_run 1 [(116, .int .i64 s5639.1)] w5676 (by kernel_rfl) ?_
            exact W_nil (ob_end (.int .i64 s5639.1) [] rfl (by kernel_rfl) ⟨by kernel_rfl, rfl⟩ M5677)
          · intro g5657 f5658
            intro v3_ hb3_
            obtain ⟨rfl, _⟩ := hb3_
            intro R w5680 M5681
            refine W_run 1 [(117, .int .i64 (w64 (s5639.1 - 1)))] w5680 (by kernel_rfl) ?_
            exact W_nil (ob_end (.int .i64 (w64 (s5639.1 - 1))) [] rfl (by kernel_rfl) ⟨by kernel_rfl, rfl⟩ M5681)
          · intro g5657 f5658
            intro R w5684 M5685
            refine W_run 1 [(118, .slice p5054 s5639.2.length c5055)] w5684 (by kernel_rfl) ?_
            exact W_nil (ob_end (.slice p5054 s5639.2.length c5055) [] rfl (by kernel_rfl) ⟨by kernel_rfl, rfl⟩ M5685)
          · intro g5657 f5658
            intro R w5688 M5689
            refine W_run 1 [(119, .int .i64 s5639.1)] w5688 (by kernel_rfl) ?_
            exact W_nil (ob_end (.int .i64 s5639.1) [] rfl (by kernel_rfl) ⟨by kernel_rfl, rfl⟩ M5689)
          · intro g5657 f5658
            intro v6_ hb6_
            obtain ⟨rfl, _⟩ := hb6_
            intro R w5692 M5693
            refine W_run 1 [(120, .int .i64 (w64 (s5639.1 - 1)))] w5692 (by kernel_rfl) ?_
            exact W_nil (ob_end (.int .i64 (w64 (s5639.1 - 1))) [] rfl (by kernel_rfl) ⟨by kernel_rfl, rfl⟩ M5693)
          · intro g5657 f5658
            intro v5_ hb5_
            obtain ⟨rfl, _⟩ := hb5_
            intro v7_ hb7_
            obtain ⟨rfl, _⟩ := hb7_
            intro R w5696 M5697
            refine W_val (elemP p5054 ((w64 (s5639.1 - 1)).toNat * 4)) w5696 (by kernel_rfl) (E_index (E := encEvent) _ _ _ s5639.2.length c5055 .i64 (w64 (s5639.1 - 1)) 4 (y := y5659) rfl (by kernel_rfl) (by kernel_rfl) (by kernel_rfl) (ho5650.rd M5697 1 (by kernel_rfl)) rfl hy5659) ?_
            exact W_nil (ob_end (elemP p5054 ((w64 (s5639.1 - 1)).toNat * 4)) [] rfl (by kernel_rfl) ⟨by kernel_rfl, rfl⟩ M5697)
          · intro g5657 f5658
            intro v8_ hb8_
            obtain ⟨rfl, _⟩ := hb8_
            intro R w5700 M5701
            refine W_val (.agg #[.int .i64 y5659.Tick, .int .i64 y5659.Guest, .string y5659.Kind, .int .i64 y5659.Value]) w5700 (by kernel_rfl) (E_loadE (E := encEvent) _ _ true 4 (w64 (s5639.1 - 1)) 0 ((w64 (s5639.1 - 1)).toNat * 4) y5659 (.agg #[.int .i64 y5659.Tick, .int .i64 y5659.Guest, .string y5659.Kind, .int .i64 y5659.Value]) rfl (by kernel_rfl) (by kernel_rfl) (by kernel_rfl) (ho5650.rd M5701 1 (by kernel_rfl)) hy5659 rfl) ?_
            exact W_nil (ob_end (.agg #[.int .i64 y5659.Tick, .int .i64 y5659.Guest, .string y5659.Kind, .int .i64 y5659.Value]) [] rfl (by kernel_rfl) ⟨by kernel_rfl, rfl⟩ M5701)
          · intro g5657 f5658
            intro R w5704 M5705
            refine W_run 1 [(123, .slice p5054 s5639.2.length c5055)] w5704 (by kernel_rfl) ?_
            exact W_nil (ob_end (.slice p5054 s5639.2.length c5055) [] rfl (by kernel_rfl) ⟨by kernel_rfl, rfl⟩ M5705)
          · intro g5657 f5658
            intro R w5708 M5709
            refine W_run 1 [(124, .int .i64 s5639.1)] w5708 (by kernel_rfl) ?_
            exact W_nil (ob_end (.int .i64 s5639.1) [] rfl (by kernel_rfl) ⟨by kernel_rfl, rfl⟩ M5709)
          · intro g5657 f5658
            intro v10_ hb10_
            obtain ⟨rfl, _⟩ := hb10_
            intro v11_ hb11_
            obtain ⟨rfl, _⟩ := hb11_
            intro R w5712 M5713
            refine W_val (elemP p5054 (s5639.1.toNat * 4)) w5712 (by kernel_rfl) (E_index (E := encEvent) _ _ _ s5639.2.length c5055 .i64 s5639.1 4 (y := y5660) rfl (by kernel_rfl) (by kernel_rfl) (by kernel_rfl) (ho5650.rd M5713 1 (by kernel_rfl)) rfl hy5660) ?_
            exact W_nil (ob_end (elemP p5054 (s5639.1.toNat * 4)) [] rfl (by kernel_rfl) ⟨by kernel_rfl, rfl⟩ M5713)
          · intro g5657 f5658
            intro v12_ hb12_
            obtain ⟨rfl, _⟩ := hb12_
            intro R w5716 M5717
            refine W_val (.agg #[.int .i64 y5660.Tick, .int .i64 y5660.Guest, .string y5660.Kind, .int .i64 y5660.Value]) w5716 (by kernel_rfl) (E_loadE (E := encEvent) _ _ true 4 s5639.1 0 (s5639.1.toNat * 4) y5660 (.agg #[.int .i64 y5660.Tick, .int .i64 y5660.Guest, .string y5660.Kind, .int .i64 y5660.Value]) rfl (by kernel_rfl) (by kernel_rfl) (by kernel_rfl) (ho5650.rd M5717 1 (by kernel_rfl)) hy5660 rfl) ?_
            exact W_nil (ob_end (.agg #[.int .i64 y5660.Tick, .int .i64 y5660.Guest, .string y5660.Kind, .int .i64 y5660.Value]) [] rfl (by kernel_rfl) ⟨by kernel_rfl, rfl⟩ M5717)
          · intro g5657 f5658
            intro v0_ hb0_
            obtain ⟨rfl, _⟩ := hb0_
            intro v1_ hb1_
            obtain ⟨rfl, _⟩ := hb1_
            intro R w5720 M5721
            refine W_val (elemP p5054 (s5639.1.toNat * 4)) w5720 (by kernel_rfl) (E_index (E := encEvent) _ _ _ s5639.2.length c5055 .i64 s5639.1 4 (y := y5661) rfl (by kernel_rfl) (by kernel_rfl) (by kernel_rfl) (ho5650.rd M5721 1 (by kernel_rfl)) rfl hy5661) ?_
            exact W_nil (ob_end (elemP p5054 (s5639.1.toNat * 4)) [] rfl (by kernel_rfl) ⟨by kernel_rfl, rfl⟩ M5721)
          · intro g5657 f5658
            intro v9_ hb9_
            obtain ⟨rfl, _⟩ := hb9_
            intro v14_ hb14_
            obtain ⟨rfl, _⟩ := hb14_
            intro R w5724 M5725
            refine W_storeE (E := encEvent) _ _ _ true 4 s5639.1.toNat 0 (s5639.1.toNat * 4) y5661 y5659 (.agg #[.int .i64 y5659.Tick, .int .i64 y5659.Guest, .string y5659.Kind, .int .i64 y5659.Value]) 0 M5725 ho5650 (by kernel_rfl) (by kernel_rfl) rfl (by kernel_rfl) (by kernel_rfl) (by kernel_rfl) (by kernel_rfl) (by kernel_rfl) (by kernel_rfl) (by kernel_rfl) (gxIdx_spec hy5661).2 rfl ?_
            intro w5726 sg5728 ho5729 M5727
            exact W_nil (ob_none sg5728 rfl ⟨rfl, ho5729⟩ M5727)
          intro g5657 f5658
          intro v2_ hb2_
          obtain ⟨rfl, _⟩ := hb2_
          intro v4_ hb4_
          obtain ⟨rfl, _⟩ := hb4_
          intro v13_ hb13_
          obtain ⟨rfl, _⟩ := hb13_
          intro v15_ hb15_
          obtain ⟨rfl, ho5662⟩ := hb15_
          intro w5730 M5731
          have M5732 : Mem (idsOf [sg5056]) w w5730 [(g5657 15)] := M5731
          refine W_conv 0 (.slice p5054 s5639.2.length c5055) (.slice p5054 (s5639.2.set s5639.1.toNat y5659).length c5055) (by kernel_rfl) (by rw [@List.length_set _ s5639.2 s5639.1.toNat y5659]) ?_
          refine W_conv 115 (.slice p5054 s5639.2.length c5055) (.slice p5054 (s5639.2.set s5639.1.toNat y5659).length c5055) (by kernel_rfl) (by rw [@List.length_set _ s5639.2 s5639.1.toNat y5659]) ?_
          obtain ⟨y5733, hy5733, hm⟩ := gx_bind hm
          refine W_val (elemP p5054 ((w64 (s5639.1 - 1)).toNat * 4)) w5730 (by kernel_rfl) (E_index (E := encEvent) _ _ _ (s5639.2.set s5639.1.toNat y5659).length c5055 .i64 (w64 (s5639.1 - 1)) 4 (y := y5733) rfl (by kernel_rfl) (by kernel_rfl) (by kernel_rfl) (ho5662.rd M5732 0 (by kernel_rfl)) rfl hy5733) ?_
          refine W_storeE (E := encEvent) _ _ _ true 4 (w64 (s5639.1 - 1)).toNat 0 ((w64 (s5639.1 - 1)).toNat * 4) y5733 y5660 (.agg #[.int .i64 y5660.Tick, .int .i64 y5660.Guest, .string y5660.Kind, .int .i64 y5660.Value]) 0 M5732 ho5662 (by kernel_rfl) (by kernel_rfl) rfl (by kernel_rfl) (by kernel_rfl) (by kernel_rfl) (by kernel_rfl) (by kernel_rfl) (by kernel_rfl) (by kernel_rfl) (gxIdx_spec hy5733).2 rfl ?_
          intro w5734 sg5736 ho5737 M5735
          refine W_conv 0 (.slice p5054 (s5639.2.set s5639.1.toNat y5659).length c5055) (.slice p5054 ((s5639.2.set s5639.1.toNat y5659).set (w64 (s5639.1 - 1)).toNat y5660).length c5055) (by kernel_rfl) (by rw [@List.length_set _ (s5639.2.set s5639.1.toNat y5659) ((w64 (s5639.1 - 1)).toNat) y5660]) ?_
          refine W_conv 115 (.slice p5054 (s5639.2.set s5639.1.toNat y5659).length c5055) (.slice p5054 ((s5639.2.set s5639.1.toNat y5659).set (w64 (s5639.1 - 1)).toNat y5660).length c5055) (by kernel_rfl) (by rw [@List.length_set _ (s5639.2.set s5639.1.toNat y5659) ((w64 (s5639.1 - 1)).toNat) y5660]) ?_
          refine W_nil ?_
          refine N_block ?_
          refine N_then ?_
          refine G_region ?_
          refine W_run 3 [(0, .slice p5054 ((s5639.2.set s5639.1.toNat y5659).set (w64 (s5639.1 - 1)).toNat y5660).length c5055), (14, .int .i64 out5446), (17, .int .i64 (w64 (s5639.1 - 1)))] w5734 (by kernel_rfl) ?_
          refine W_nil ?_
          obtain rfl := Option.some.inj hm
          exact N_loop fun a ha => ⟨_, rfl, sg5736, ho5737, (List.length_set.trans (List.length_set.trans hl5651)), M5735.pick [0] (by kernel_rfl), ha.sub (by kernel_rfl)⟩
        refine G_cond_f (b := (decide (s5639.1 > out5446))) hc5656 (by kernel_rfl) ?_
        refine G_exit ?_
        refine N_then_exit ?_
        refine N_then_exit ?_
        refine N_block_eq ?_
        obtain rfl := Option.some.inj hm
        obtain rfl := hout5641 _ rfl
        exact N_meet fun a ha => ⟨sg5649, ho5650, hl5651, M5644.pick [0] (by kernel_rfl), ha.sub (by kernel_rfl)⟩
      intro a5738 w5739 ⟨sg5653, ho5654, hl5655, M5740, hS5741⟩
      refine N_use hS5741 ?_
      have hm := hmo5648
      refine N_then ?_
      refine G_ret ?_
      refine N_then_ret ?_
      obtain rfl := Option.some.inj hm
      refine N_ret [] (RVs_nil) ?_
      exact ⟨sg5653, rfl, ho5654, hl5655, M5740.pick [0] (by kernel_rfl)⟩
    refine G_cond_f (b := ((w64 (x5060 - x5059)) == 1)) hc5402 (by kernel_rfl) ?_
    refine G_skip ?_
    refine N_then ?_
    refine G_seq ?_
    refine G_region ?_
    refine W_run 7 [(0, .slice p5054 x5052.length c5055), (1, .int .i64 x5058), (2, .int .i64 x5059), (3, .int .i64 x5060), (4, .func (.func 85) #[] #[]), (18, .int .i64 (w64 ((IntKind.u64.wrap (w64 (x5058 + x5060))).fdiv (2 ^ 1))))] w (by kernel_rfl) ?_
    refine W_nil ?_
    refine N_then ?_
    refine G_seq ?_
    refine G_region ?_
    refine W_run 4 [(0, .slice p5054 x5052.length c5055), (1, .int .i64 x5058), (2, .int .i64 x5059), (3, .int .i64 x5060), (4, .func (.func 85) #[] #[]), (18, .int .i64 (w64 ((IntKind.u64.wrap (w64 (x5058 + x5060))).fdiv (2 ^ 1)))), (19, .int .i64 (w64 ((w64 ((IntKind.u64.wrap (w64 (x5058 + x5060))).fdiv (2 ^ 1))) + x5059)))] w (by kernel_rfl) ?_
    refine W_nil ?_
    refine N_then ?_
    refine G_seq ?_
    refine G_region ?_
    refine W_run 2 [(0, .slice p5054 x5052.length c5055), (1, .int .i64 x5058), (2, .int .i64 x5059), (3, .int .i64 x5060), (4, .func (.func 85) #[] #[]), (18, .int .i64 (w64 ((IntKind.u64.wrap (w64 (x5058 + x5060))).fdiv (2 ^ 1)))), (19, .int .i64 (w64 ((w64 ((IntKind.u64.wrap (w64 (x5058 + x5060))).fdiv (2 ^ 1))) + x5059)))] w (by kernel_rfl) ?_
    refine W_nil ?_
    refine N_then ?_
    refine G_seq ?_
    refine G_seq ?_
    refine G_region ?_
    refine W_run 3 [(0, .slice p5054 x5052.length c5055), (1, .int .i64 x5058), (2, .int .i64 x5059), (3, .int .i64 x5060), (4, .func (.func 85) #[] #[]), (18, .int .i64 (w64 ((IntKind.u64.wrap (w64 (x5058 + x5060))).fdiv (2 ^ 1)))), (19, .int .i64 (w64 ((w64 ((IntKind.u64.wrap (w64 (x5058 + x5060))).fdiv (2 ^ 1))) + x5059))), (140, .bool (decide (x5059 > (w64 ((IntKind.u64.wrap (w64 (x5058 + x5060))).fdiv (2 ^ 1))))))] w (by kernel_rfl) ?_
    refine W_nil ?_
    refine N_then ?_
    obtain ⟨o5743, ho5744, hm5745⟩ := gx_bind hm
    refine G_meet (fun a w' => Mem (idsOf [sg5056]) w w' [sg5056] ∧ Sat Try.f106.ntmps [(0, .slice p5054 x5052.length c5055), (1, .int .i64 x5058), (2, .int .i64 x5059), (3, .int .i64 x5060), (4, .func (.func 85) #[] #[]), (18, .int .i64 (w64 ((IntKind.u64.wrap (w64 (x5058 + x5060))).fdiv (2 ^ 1)))), (19, .int .i64 (w64 ((w64 ((IntKind.u64.wrap (w64 (x5058 + x5060))).fdiv (2 ^ 1))) + x5059))), (20, .int .i64 o5743.1), (21, .int .i64 o5743.2)] a) ?_ ?_
    · have hm := ho5744
      rcases gx_bif hm with ⟨hc5746, hm⟩ | ⟨hc5746, hm⟩
      · refine G_cond_t (b := (decide (x5059 > (w64 ((IntKind.u64.wrap (w64 (x5058 + x5060))).fdiv (2 ^ 1)))))) hc5746 (by kernel_rfl) ?_
        refine G_seq ?_
        refine G_region ?_
        refine W_run 4 [(0, .slice p5054 x5052.length c5055), (1, .int .i64 x5058), (2, .int .i64 x5059), (3, .int .i64 x5060), (4, .func (.func 85) #[] #[]), (18, .int .i64 (w64 ((IntKind.u64.wrap (w64 (x5058 + x5060))).fdiv (2 ^ 1)))), (19, .int .i64 (w64 ((w64 ((IntKind.u64.wrap (w64 (x5058 + x5060))).fdiv (2 ^ 1))) + x5059))), (20, .int .i64 (w64 ((w64 ((w64 ((IntKind.u64.wrap (w64 (x5058 + x5060))).fdiv (2 ^ 1))) + x5059)) - x5060)))] w (by kernel_rfl) ?_
        refine W_nil ?_
        refine N_then ?_
        refine G_region ?_
        refine W_run 2 [(0, .slice p5054 x5052.length c5055), (1, .int .i64 x5058), (2, .int .i64 x5059), (3, .int .i64 x5060), (4, .func (.func 85) #[] #[]), (18, .int .i64 (w64 ((IntKind.u64.wrap (w64 (x5058 + x5060))).fdiv (2 ^ 1)))), (19, .int .i64 (w64 ((w64 ((IntKind.u64.wrap (w64 (x5058 + x5060))).fdiv (2 ^ 1))) + x5059))), (20, .int .i64 (w64 ((w64 ((w64 ((IntKind.u64.wrap (w64 (x5058 + x5060))).fdiv (2 ^ 1))) + x5059)) - x5060))), (21, .int .i64 (w64 ((IntKind.u64.wrap (w64 (x5058 + x5060))).fdiv (2 ^ 1))))] w (by kernel_rfl) ?_
        refine W_nil ?_
        obtain rfl := Option.some.inj hm
        exact N_meet fun a ha => ⟨M0.pick [0] (by kernel_rfl), ha.sub (by kernel_rfl)⟩
      refine G_cond_f (b := (decide (x5059 > (w64 ((IntKind.u64.wrap (w64 (x5058 + x5060))).fdiv (2 ^ 1)))))) hc5746 (by kernel_rfl) ?_
      refine G_seq ?_
      refine G_region ?_
      refine W_run 2 [(0, .slice p5054 x5052.length c5055), (1, .int .i64 x5058), (2, .int .i64 x5059), (3, .int .i64 x5060), (4, .func (.func 85) #[] #[]), (18, .int .i64 (w64 ((IntKind.u64.wrap (w64 (x5058 + x5060))).fdiv (2 ^ 1)))), (19, .int .i64 (w64 ((w64 ((IntKind.u64.wrap (w64 (x5058 + x5060))).fdiv (2 ^ 1))) + x5059))), (20, .int .i64 x5058)] w (by kernel_rfl) ?_
      refine W_nil ?_
      refine N_then ?_
      refine G_region ?_
      refine W_run 2 [(0, .slice p5054 x5052.length c5055), (1, .int .i64 x5058), (2, .int .i64 x5059), (3, .int .i64 x5060), (4, .func (.func 85) #[] #[]), (18, .int .i64 (w64 ((IntKind.u64.wrap (w64 (x5058 + x5060))).fdiv (2 ^ 1)))), (19, .int .i64 (w64 ((w64 ((IntKind.u64.wrap (w64 (x5058 + x5060))).fdiv (2 ^ 1))) + x5059))), (20, .int .i64 x5058), (21, .int .i64 x5059)] w (by kernel_rfl) ?_
      refine W_nil ?_
      obtain rfl := Option.some.inj hm
      exact N_meet fun a ha => ⟨M0.pick [0] (by kernel_rfl), ha.sub (by kernel_rfl)⟩
    intro a5749 w5747 ⟨M5748, hS5750⟩
    refine N_use hS5750 ?_
    have hm := hm5745
    refine N_then ?_
    refine G_seq ?_
    refine G_region ?_
    refine W_run 3 [(0, .slice p5054 x5052.length c5055), (1, .int .i64 x5058), (2, .int .i64 x5059), (3, .int .i64 x5060), (4, .func (.func 85) #[] #[]), (18, .int .i64 (w64 ((IntKind.u64.wrap (w64 (x5058 + x5060))).fdiv (2 ^ 1)))), (19, .int .i64 (w64 ((w64 ((IntKind.u64.wrap (w64 (x5058 + x5060))).fdiv (2 ^ 1))) + x5059))), (20, .int .i64 o5743.1), (21, .int .i64 o5743.2), (22, .int .i64 (w64 ((w64 ((w64 ((IntKind.u64.wrap (w64 (x5058 + x5060))).fdiv (2 ^ 1))) + x5059)) - 1)))] w5747 (by kernel_rfl) ?_
    refine W_nil ?_
    refine N_then ?_
    refine G_seq ?_
    obtain ⟨out5794, hw5795, hmo5796⟩ := gx_bind hm
    refine G_meet (fun a w' => Mem (idsOf [sg5056]) w w' [sg5056] ∧ Sat Try.f106.ntmps [(0, .slice p5054 x5052.length c5055), (1, .int .i64 x5058), (2, .int .i64 x5059), (3, .int .i64 x5060), (4, .func (.func 85) #[] #[]), (18, .int .i64 (w64 ((IntKind.u64.wrap (w64 (x5058 + x5060))).fdiv (2 ^ 1)))), (19, .int .i64 (w64 ((w64 ((IntKind.u64.wrap (w64 (x5058 + x5060))).fdiv (2 ^ 1))) + x5059))), (20, .int .i64 out5794)] a) ?_ ?_
    · refine G_block ?_
      refine G_while (σ := Int × Int) (ρ := Int) (fun s5787 a w' => Mem (idsOf [sg5056]) w w' [sg5056] ∧ Sat Try.f106.ntmps [(0, .slice p5054 x5052.length c5055), (1, .int .i64 x5058), (2, .int .i64 x5059), (3, .int .i64 x5060), (4, .func (.func 85) #[] #[]), (18, .int .i64 (w64 ((IntKind.u64.wrap (w64 (x5058 + x5060))).fdiv (2 ^ 1)))), (19, .int .i64 (w64 ((w64 ((IntKind.u64.wrap (w64 (x5058 + x5060))).fdiv (2 ^ 1))) + x5059))), (20, .int .i64 s5787.1), (21, .int .i64 s5787.2), (22, .int .i64 (w64 ((w64 ((w64 ((IntKind.u64.wrap (w64 (x5058 + x5060))).fdiv (2 ^ 1))) + x5059)) - 1)))] a) hw5795 (fun a ha => ⟨M5748.pick [0] (by kernel_rfl), ha.sub (by kernel_rfl)⟩) ?_
      clear hm
      intro s5787 x5788 hm hout5789 a5790 w5791 ⟨M5792, hS5793⟩
      refine G_use hS5793 ?_
      refine G_seq ?_
      refine G_seq ?_
      refine G_region ?_
      refine W_run 3 [(0, .slice p5054 x5052.length c5055), (1, .int .i64 x5058), (2, .int .i64 x5059), (3, .int .i64 x5060), (4, .func (.func 85) #[] #[]), (18, .int .i64 (w64 ((IntKind.u64.wrap (w64 (x5058 + x5060))).fdiv (2 ^ 1)))), (19, .int .i64 (w64 ((w64 ((IntKind.u64.wrap (w64 (x5058 + x5060))).fdiv (2 ^ 1))) + x5059))), (20, .int .i64 s5787.1), (21, .int .i64 s5787.2), (22, .int .i64 (w64 ((w64 ((w64 ((IntKind.u64.wrap (w64 (x5058 + x5060))).fdiv (2 ^ 1))) + x5059)) - 1))), (151, .bool (decide (s5787.1 < s5787.2)))] w5791 (by kernel_rfl) ?_
      refine W_nil ?_
      refine N_then ?_
      rcases gx_bif hm with ⟨hc5798, hm⟩ | ⟨hc5798, hm⟩
      · refine G_cond_t (b := (decide (s5787.1 < s5787.2))) hc5798 (by kernel_rfl) ?_
        refine G_skip ?_
        refine N_then ?_
        refine G_block ?_
        refine G_seq ?_
        refine G_region ?_
        refine W_run 7 [(0, .slice p5054 x5052.length c5055), (1, .int .i64 x5058), (2, .int .i64 x5059), (3, .int .i64 x5060), (4, .func (.func 85) #[] #[]), (18, .int .i64 (w64 ((IntKind.u64.wrap (w64 (x5058 + x5060))).fdiv (2 ^ 1)))), (19, .int .i64 (w64 ((w64 ((IntKind.u64.wrap (w64 (x5058 + x5060))).fdiv (2 ^ 1))) + x5059))), (20, .int .i64 s5787.1), (21, .int .i64 s5787.2), (22, .int .i64 (w64 ((w64 ((w64 ((IntKind.u64.wrap (w64 (x5058 + x5060))).fdiv (2 ^ 1))) + x5059)) - 1))), (23, .int .i64 (w64 ((IntKind.u64.wrap (w64 (s5787.1 + s5787.2))).fdiv (2 ^ 1))))] w5791 (by kernel_rfl) ?_
        refine W_nil ?_
        refine N_then ?_
        refine G_seq ?_
        refine G_quiet (by kernel_rfl) (by kernel_rfl) M5792 ?_
        refine Z_runs [.func (.func 85) #[] #[], .slice p5054 x5052.length c5055, .int .i64 (w64 ((w64 ((w64 ((IntKind.u64.wrap (w64 (x5058 + x5060))).fdiv (2 ^ 1))) + x5059)) - 1)), .int .i64 (w64 ((IntKind.u64.wrap (w64 (s5787.1 + s5787.2))).fdiv (2 ^ 1))), .int .i64 (w64 ((w64 ((w64 ((w64 ((IntKind.u64.wrap (w64 (x5058 + x5060))).fdiv (2 ^ 1))) + x5059)) - 1)) - (w64 ((IntKind.u64.wrap (w64 (s5787.1 + s5787.2))).fdiv (2 ^ 1)))))] [(0, .slice p5054 x5052.length c5055), (1, .int .i64 x5058), (2, .int .i64 x5059), (3, .int .i64 x5060), (4, .func (.func 85) #[] #[]), (18, .int .i64 (w64 ((IntKind.u64.wrap (w64 (x5058 + x5060))).fdiv (2 ^ 1)))), (19, .int .i64 (w64 ((w64 ((IntKind.u64.wrap (w64 (x5058 + x5060))).fdiv (2 ^ 1))) + x5059))), (20, .int .i64 s5787.1), (21, .int .i64 s5787.2), (22, .int .i64 (w64 ((w64 ((w64 ((IntKind.u64.wrap (w64 (x5058 + x5060))).fdiv (2 ^ 1))) + x5059)) - 1))), (23, .int .i64 (w64 ((IntKind.u64.wrap (w64 (s5787.1 + s5787.2))).fdiv (2 ^ 1)))), (158, .func (.func 85) #[] #[]), (159, .slice p5054 x5052.length c5055), (162, .int .i64 (w64 ((w64 ((w64 ((w64 ((IntKind.u64.wrap (w64 (x5058 + x5060))).fdiv (2 ^ 1))) + x5059)) - 1)) - (w64 ((IntKind.u64.wrap (w64 (s5787.1 + s5787.2))).fdiv (2 ^ 1))))))] (fun w_ => by kernel_rfl) (by kernel_rfl) ?_
        obtain ⟨y5799, hy5799, hm⟩ := gx_bind hm
        refine Z_val (elemP p5054 ((w64 ((w64 ((w64 ((w64 ((IntKind.u64.wrap (w64 (x5058 + x5060))).fdiv (2 ^ 1))) + x5059)) - 1)) - (w64 ((IntKind.u64.wrap (w64 (s5787.1 + s5787.2))).fdiv (2 ^ 1))))).toNat * 4)) (by kernel_rfl) (fun w_ M_ => (E_index (E := encEvent) _ _ _ x5052.length c5055 .i64 (w64 ((w64 ((w64 ((w64 ((IntKind.u64.wrap (w64 (x5058 + x5060))).fdiv (2 ^ 1))) + x5059)) - 1)) - (w64 ((IntKind.u64.wrap (w64 (s5787.1 + s5787.2))).fdiv (2 ^ 1))))) 4 (y := y5799) rfl (by kernel_rfl) (by kernel_rfl) (by kernel_rfl) (ho5057.rd M_ 0 (by kernel_rfl)) rfl hy5799)) ?_
        refine Z_val (.agg #[.int .i64 y5799.Tick, .int .i64 y5799.Guest, .string y5799.Kind, .int .i64 y5799.Value]) (by kernel_rfl) (fun w_ M_ => (E_loadE (E := encEvent) _ _ true 4 (w64 ((w64 ((w64 ((w64 ((IntKind.u64.wrap (w64 (x5058 + x5060))).fdiv (2 ^ 1))) + x5059)) - 1)) - (w64 ((IntKind.u64.wrap (w64 (s5787.1 + s5787.2))).fdiv (2 ^ 1))))) 0 ((w64 ((w64 ((w64 ((w64 ((IntKind.u64.wrap (w64 (x5058 + x5060))).fdiv (2 ^ 1))) + x5059)) - 1)) - (w64 ((IntKind.u64.wrap (w64 (s5787.1 + s5787.2))).fdiv (2 ^ 1))))).toNat * 4) y5799 (.agg #[.int .i64 y5799.Tick, .int .i64 y5799.Guest, .string y5799.Kind, .int .i64 y5799.Value]) rfl (by kernel_rfl) (by kernel_rfl) (by kernel_rfl) (ho5057.rd M_ 0 (by kernel_rfl)) hy5799 rfl)) ?_
        refine Z_runs [.slice p5054 x5052.length c5055, .int .i64 (w64 ((IntKind.u64.wrap (w64 (s5787.1 + s5787.2))).fdiv (2 ^ 1)))] [(0, .slice p5054 x5052.length c5055), (1, .int .i64 x5058), (2, .int .i64 x5059), (3, .int .i64 x5060), (4, .func (.func 85) #[] #[]), (18, .int .i64 (w64 ((IntKind.u64.wrap (w64 (x5058 + x5060))).fdiv (2 ^ 1)))), (19, .int .i64 (w64 ((w64 ((IntKind.u64.wrap (w64 (x5058 + x5060))).fdiv (2 ^ 1))) + x5059))), (20, .int .i64 s5787.1), (21, .int .i64 s5787.2), (22, .int .i64 (w64 ((w64 ((w64 ((IntKind.u64.wrap (w64 (x5058 + x5060))).fdiv (2 ^ 1))) + x5059)) - 1))), (23, .int .i64 (w64 ((IntKind.u64.wrap (w64 (s5787.1 + s5787.2))).fdiv (2 ^ 1)))), (158, .func (.func 85) #[] #[]), (164, .agg #[.int .i64 y5799.Tick, .int .i64 y5799.Guest, .string y5799.Kind, .int .i64 y5799.Value]), (165, .slice p5054 x5052.length c5055), (166, .int .i64 (w64 ((IntKind.u64.wrap (w64 (s5787.1 + s5787.2))).fdiv (2 ^ 1))))] (fun w_ => by kernel_rfl) (by kernel_rfl) ?_
        obtain ⟨y5800, hy5800, hm⟩ := gx_bind hm
        refine Z_val (elemP p5054 ((w64 ((IntKind.u64.wrap (w64 (s5787.1 + s5787.2))).fdiv (2 ^ 1))).toNat * 4)) (by kernel_rfl) (fun w_ M_ => (E_index (E := encEvent) _ _ _ x5052.length c5055 .i64 (w64 ((IntKind.u64.wrap (w64 (s5787.1 + s5787.2))).fdiv (2 ^ 1))) 4 (y := y5800) rfl (by kernel_rfl) (by kernel_rfl) (by kernel_rfl) (ho5057.rd M_ 0 (by kernel_rfl)) rfl hy5800)) ?_
        refine Z_val (.agg #[.int .i64 y5800.Tick, .int .i64 y5800.Guest, .string y5800.Kind, .int .i64 y5800.Value]) (by kernel_rfl) (fun w_ M_ => (E_loadE (E := encEvent) _ _ true 4 (w64 ((IntKind.u64.wrap (w64 (s5787.1 + s5787.2))).fdiv (2 ^ 1))) 0 ((w64 ((IntKind.u64.wrap (w64 (s5787.1 + s5787.2))).fdiv (2 ^ 1))).toNat * 4) y5800 (.agg #[.int .i64 y5800.Tick, .int .i64 y5800.Guest, .string y5800.Kind, .int .i64 y5800.Value]) rfl (by kernel_rfl) (by kernel_rfl) (by kernel_rfl) (ho5057.rd M_ 0 (by kernel_rfl)) hy5800 rfl)) ?_
        obtain ⟨r5801, hr5801, hm⟩ := gx_bind hm
        refine Z_call 85 #[.agg #[.int .i64 y5799.Tick, .int .i64 y5799.Guest, .string y5799.Kind, .int .i64 y5799.Value], .agg #[.int .i64 y5800.Tick, .int .i64 y5800.Guest, .string y5800.Kind, .int .i64 y5800.Value]] (.int .i64 r5801) (by kernel_rfl) (fun w_ => by kernel_rfl) (fun w_ M_ => (c_i_merged_1 w_ y5799 y5800 hr5801).mono fun e w2_ h_ => ⟨h_.1, M_.call0 h_.2⟩) ?_
        refine Z_runs [.bool (decide (r5801 < 0)), .bool (!(decide (r5801 < 0)))] [(0, .slice p5054 x5052.length c5055), (1, .int .i64 x5058), (2, .int .i64 x5059), (3, .int .i64 x5060), (4, .func (.func 85) #[] #[]), (18, .int .i64 (w64 ((IntKind.u64.wrap (w64 (x5058 + x5060))).fdiv (2 ^ 1)))), (19, .int .i64 (w64 ((w64 ((IntKind.u64.wrap (w64 (x5058 + x5060))).fdiv (2 ^ 1))) + x5059))), (20, .int .i64 s5787.1), (21, .int .i64 s5787.2), (22, .int .i64 (w64 ((w64 ((w64 ((IntKind.u64.wrap (w64 (x5058 + x5060))).fdiv (2 ^ 1))) + x5059)) - 1))), (23, .int .i64 (w64 ((IntKind.u64.wrap (w64 (s5787.1 + s5787.2))).fdiv (2 ^ 1)))), (171, .bool (!(decide (r5801 < 0))))] (fun w_ => by kernel_rfl) (by kernel_rfl) ?_
        refine Z_end fun w5805 M5806 => ?_
        refine N_then ?_
        obtain ⟨o5808, ho5809, hm5810⟩ := gx_bind hm
        refine G_meet (fun a w' => Mem (idsOf [sg5056]) w w' [sg5056] ∧ Sat Try.f106.ntmps [(0, .slice p5054 x5052.length c5055), (1, .int .i64 x5058), (2, .int .i64 x5059), (3, .int .i64 x5060), (4, .func (.func 85) #[] #[]), (18, .int .i64 (w64 ((IntKind.u64.wrap (w64 (x5058 + x5060))).fdiv (2 ^ 1)))), (19, .int .i64 (w64 ((w64 ((IntKind.u64.wrap (w64 (x5058 + x5060))).fdiv (2 ^ 1))) + x5059))), (20, .int .i64 o5808.1), (21, .int .i64 o5808.2), (22, .int .i64 (w64 ((w64 ((w64 ((IntKind.u64.wrap (w64 (x5058 + x5060))).fdiv (2 ^ 1))) + x5059)) - 1)))] a) ?_ ?_
        · have hm := ho5809
          rcases gx_bif hm with ⟨hc5811, hm⟩ | ⟨hc5811, hm⟩
          · refine G_cond_t (b := (!(decide (r5801 < 0)))) hc5811 (by kernel_rfl) ?_
            refine G_region ?_
            refine W_run 3 [(0, .slice p5054 x5052.length c5055), (1, .int .i64 x5058), (2, .int .i64 x5059), (3, .int .i64 x5060), (4, .func (.func 85) #[] #[]), (18, .int .i64 (w64 ((IntKind.u64.wrap (w64 (x5058 + x5060))).fdiv (2 ^ 1)))), (19, .int .i64 (w64 ((w64 ((IntKind.u64.wrap (w64 (x5058 + x5060))).fdiv (2 ^ 1))) + x5059))), (20, .int .i64 (w64 ((w64 ((IntKind.u64.wrap (w64 (s5787.1 + s5787.2))).fdiv (2 ^ 1))) + 1))), (21, .int .i64 s5787.2), (22, .int .i64 (w64 ((w64 ((w64 ((IntKind.u64.wrap (w64 (x5058 + x5060))).fdiv (2 ^ 1))) + x5059)) - 1)))] w5805 (by kernel_rfl) ?_
            refine W_nil ?_
            obtain rfl := Option.some.inj hm
            exact N_meet fun a ha => ⟨M5806.pick [0] (by kernel_rfl), ha.sub (by kernel_rfl)⟩
          refine G_cond_f (b := (!(decide (r5801 < 0)))) hc5811 (by kernel_rfl) ?_
          refine G_region ?_
          refine W_run 2 [(0, .slice p5054 x5052.length c5055), (1, .int .i64 x5058), (2, .int .i64 x5059), (3, .int .i64 x5060), (4, .func (.func 85) #[] #[]), (18, .int .i64 (w64 ((IntKind.u64.wrap (w64 (x5058 + x5060))).fdiv (2 ^ 1)))), (19, .int .i64 (w64 ((w64 ((IntKind.u64.wrap (w64 (x5058 + x5060))).fdiv (2 ^ 1))) + x5059))), (20, .int .i64 s5787.1), (21, .int .i64 (w64 ((IntKind.u64.wrap (w64 (s5787.1 + s5787.2))).fdiv (2 ^ 1)))), (22, .int .i64 (w64 ((w64 ((w64 ((IntKind.u64.wrap (w64 (x5058 + x5060))).fdiv (2 ^ 1))) + x5059)) - 1)))] w5805 (by kernel_rfl) ?_
          refine W_nil ?_
          obtain rfl := Option.some.inj hm
          exact N_meet fun a ha => ⟨M5806.pick [0] (by kernel_rfl), ha.sub (by kernel_rfl)⟩
        intro a5814 w5812 ⟨M5813, hS5815⟩
        refine N_use hS5815 ?_
        have hm := hm5810
        refine N_block ?_
        obtain rfl := Option.some.inj hm
        exact N_loop fun a ha => ⟨_, rfl, M5813.pick [0] (by kernel_rfl), ha.sub (by kernel_rfl)⟩
      refine G_cond_f (b := (decide (s5787.1 < s5787.2))) hc5798 (by kernel_rfl) ?_
      refine G_exit ?_
      refine N_then_exit ?_
      refine N_then_exit ?_
      refine N_block_eq ?_
      obtain rfl := Option.some.inj hm
      obtain rfl := hout5789 _ rfl
      exact N_meet fun a ha => ⟨M5792.pick [0] (by kernel_rfl), ha.sub (by kernel_rfl)⟩
    intro a5816 w5817 ⟨M5818, hS5819⟩
    refine N_use hS5819 ?_
    have hm := hmo5796
    refine N_then ?_
    refine G_seq ?_
    refine G_region ?_
    refine W_run 4 [(0, .slice p5054 x5052.length c5055), (1, .int .i64 x5058), (2, .int .i64 x5059), (3, .int .i64 x5060), (4, .func (.func 85) #[] #[]), (18, .int .i64 (w64 ((IntKind.u64.wrap (w64 (x5058 + x5060))).fdiv (2 ^ 1)))), (20, .int .i64 out5794), (24, .int .i64 (w64 ((w64 ((w64 ((IntKind.u64.wrap (w64 (x5058 + x5060))).fdiv (2 ^ 1))) + x5059)) - out5794)))] w5817 (by kernel_rfl) ?_
    refine W_nil ?_
    refine N_then ?_
    refine G_seq ?_
    refine G_seq ?_
    obtain ⟨o5821, ho5822, hm5823⟩ := gx_bind hm
    refine G_meet (fun a w' => Mem (idsOf [sg5056]) w w' [sg5056] ∧ Sat Try.f106.ntmps [(0, .slice p5054 x5052.length c5055), (1, .int .i64 x5058), (2, .int .i64 x5059), (3, .int .i64 x5060), (4, .func (.func 85) #[] #[]), (18, .int .i64 (w64 ((IntKind.u64.wrap (w64 (x5058 + x5060))).fdiv (2 ^ 1)))), (20, .int .i64 out5794), (24, .int .i64 (w64 ((w64 ((w64 ((IntKind.u64.wrap (w64 (x5058 + x5060))).fdiv (2 ^ 1))) + x5059)) - out5794))), (185, .bool o5821)] a) ?_ ?_
    · have hm := ho5822
      refine G_region ?_
      refine W_run 4 [(0, .slice p5054 x5052.length c5055), (1, .int .i64 x5058), (2, .int .i64 x5059), (3, .int .i64 x5060), (4, .func (.func 85) #[] #[]), (18, .int .i64 (w64 ((IntKind.u64.wrap (w64 (x5058 + x5060))).fdiv (2 ^ 1)))), (20, .int .i64 out5794), (24, .int .i64 (w64 ((w64 ((w64 ((IntKind.u64.wrap (w64 (x5058 + x5060))).fdiv (2 ^ 1))) + x5059)) - out5794))), (181, .bool (decide (out5794 < x5059)))] w5817 (by kernel_rfl) ?_
      rcases gx_bif hm with ⟨hc5824, hm⟩ | ⟨hc5824, hm⟩
      · refine W_known 181 true (by kernel_rfl) hc5824 ?_
        refine W_run 4 [(0, .slice p5054 x5052.length c5055), (1, .int .i64 x5058), (2, .int .i64 x5059), (3, .int .i64 x5060), (4, .func (.func 85) #[] #[]), (18, .int .i64 (w64 ((IntKind.u64.wrap (w64 (x5058 + x5060))).fdiv (2 ^ 1)))), (20, .int .i64 out5794), (24, .int .i64 (w64 ((w64 ((w64 ((IntKind.u64.wrap (w64 (x5058 + x5060))).fdiv (2 ^ 1))) + x5059)) - out5794))), (185, .bool (decide (x5059 < (w64 ((w64 ((w64 ((IntKind.u64.wrap (w64 (x5058 + x5060))).fdiv (2 ^ 1))) + x5059)) - out5794)))))] w5817 (by kernel_rfl) ?_
        refine W_nil ?_
        obtain rfl := Option.some.inj hm
        exact N_meet fun a ha => ⟨M5818.pick [0] (by kernel_rfl), ha.sub (by kernel_rfl)⟩
      refine W_known 181 false (by kernel_rfl) hc5824 ?_
      refine W_run 4 [(0, .slice p5054 x5052.length c5055), (1, .int .i64 x5058), (2, .int .i64 x5059), (3, .int .i64 x5060), (4, .func (.func 85) #[] #[]), (18, .int .i64 (w64 ((IntKind.u64.wrap (w64 (x5058 + x5060))).fdiv (2 ^ 1)))), (20, .int .i64 out5794), (24, .int .i64 (w64 ((w64 ((w64 ((IntKind.u64.wrap (w64 (x5058 + x5060))).fdiv (2 ^ 1))) + x5059)) - out5794))), (185, .bool false)] w5817 (by kernel_rfl) ?_
      refine W_nil ?_
      obtain rfl := Option.some.inj hm
      exact N_meet fun a ha => ⟨M5818.pick [0] (by kernel_rfl), ha.sub (by kernel_rfl)⟩
    intro a5827 w5825 ⟨M5826, hS5828⟩
    refine N_use hS5828 ?_
    have hm := hm5823
    refine N_then ?_
    obtain ⟨o6378, ho6379, hm6380⟩ := gx_bind hm
    refine G_meet (fun a w' => ∃ (sg6381 : Seg), ownS encEvent o6378 p5054 c5055 sg6381 ∧ o6378.length = x5052.length ∧ Mem (idsOf [sg5056]) w w' [sg6381] ∧ Sat Try.f106.ntmps [(0, .slice p5054 o6378.length c5055), (1, .int .i64 x5058), (3, .int .i64 x5060), (4, .func (.func 85) #[] #[]), (18, .int .i64 (w64 ((IntKind.u64.wrap (w64 (x5058 + x5060))).fdiv (2 ^ 1)))), (20, .int .i64 out5794), (24, .int .i64 (w64 ((w64 ((w64 ((IntKind.u64.wrap (w64 (x5058 + x5060))).fdiv (2 ^ 1))) + x5059)) - out5794)))] a) ?_ ?_
    · have hm := ho6379
      rcases gx_bif hm with ⟨hc6384, hm⟩ | ⟨hc6384, hm⟩
      · refine G_cond_t (b := o5821) hc6384 (by kernel_rfl) ?_
        refine G_region ?_
        refine W_run 5 [(0, .slice p5054 x5052.length c5055), (1, .int .i64 x5058), (3, .int .i64 x5060), (4, .func (.func 85) #[] #[]), (18, .int .i64 (w64 ((IntKind.u64.wrap (w64 (x5058 + x5060))).fdiv (2 ^ 1)))), (20, .int .i64 out5794), (24, .int .i64 (w64 ((w64 ((w64 ((IntKind.u64.wrap (w64 (x5058 + x5060))).fdiv (2 ^ 1))) + x5059)) - out5794))), (186, .slice p5054 x5052.length c5055), (187, .int .i64 out5794), (188, .int .i64 x5059), (189, .int .i64 (w64 ((w64 ((w64 ((IntKind.u64.wrap (w64 (x5058 + x5060))).fdiv (2 ^ 1))) + x5059)) - out5794))), (190, .func (.func 85) #[] #[])] w5825 (by kernel_rfl) ?_
        obtain ⟨r6385, hr6385, hm⟩ := gx_bind hm
        refine W_call 113 #[.slice p5054 x5052.length c5055, .int .i64 out5794, .int .i64 x5059, .int .i64 (w64 ((w64 ((w64 ((IntKind.u64.wrap (w64 (x5058 + x5060))).fdiv (2 ^ 1))) + x5059)) - out5794)), .func (.func 85) #[] #[]] (by kernel_rfl) (by kernel_rfl) ?_
        refine (c_slices_rotateCmpFunc_113__i_merged_1 w5825 x5052 p5054 c5055 sg5056 ho5057 out5794 x5059 (w64 ((w64 ((w64 ((IntKind.u64.wrap (w64 (x5058 + x5060))).fdiv (2 ^ 1))) + x5059)) - out5794)) (M5826.hasPick [0]) (M5826.nodupPick [0] (by kernel_rfl)) hr6385).mono ?_
        rintro e_ w6389 ⟨sg6386, rfl, ho6387, hl6388, K6390⟩
        have M6391 := M5826.callF' [0] [] (by kernel_rfl) K6390
        refine ⟨_, rfl, ?_⟩
        refine W_conv 0 (.slice p5054 x5052.length c5055) (.slice p5054 r6385.length c5055) (by kernel_rfl) (by first | rw [hl6388] | rw [hl6388]) ?_
        refine W_conv 186 (.slice p5054 x5052.length c5055) (.slice p5054 r6385.length c5055) (by kernel_rfl) (by first | rw [hl6388] | rw [hl6388]) ?_
        refine W_nil ?_
        obtain rfl := Option.some.inj hm
        exact N_meet fun a ha => ⟨sg6386, ho6387, (hl6388.trans rfl), M6391.pick [0] (by kernel_rfl), ha.sub (by kernel_rfl)⟩
      refine G_cond_f (b := o5821) hc6384 (by kernel_rfl) ?_
      refine G_skip ?_
      obtain rfl := Option.some.inj hm
      exact N_meet fun a ha => ⟨sg5056, ho5057, rfl, M5826.pick [0] (by kernel_rfl), ha.sub (by kernel_rfl)⟩
    intro a6394 w6392 ⟨sg6381, ho6382, hl6383, M6393, hS6395⟩
    refine N_use hS6395 ?_
    have hm := hm6380
    refine N_then ?_
    refine G_seq ?_
    refine G_seq ?_
    obtain ⟨o6397, ho6398, hm6399⟩ := gx_bind hm
    refine G_meet (fun a w' => Mem (idsOf [sg5056]) w w' [sg6381] ∧ Sat Try.f106.ntmps [(0, .slice p5054 o6378.length c5055), (1, .int .i64 x5058), (3, .int .i64 x5060), (4, .func (.func 85) #[] #[]), (18, .int .i64 (w64 ((IntKind.u64.wrap (w64 (x5058 + x5060))).fdiv (2 ^ 1)))), (20, .int .i64 out5794), (24, .int .i64 (w64 ((w64 ((w64 ((IntKind.u64.wrap (w64 (x5058 + x5060))).fdiv (2 ^ 1))) + x5059)) - out5794))), (199, .bool o6397)] a) ?_ ?_
    · have hm := ho6398
      refine G_region ?_
      refine W_run 4 [(0, .slice p5054 o6378.length c5055), (1, .int .i64 x5058), (3, .int .i64 x5060), (4, .func (.func 85) #[] #[]), (18, .int .i64 (w64 ((IntKind.u64.wrap (w64 (x5058 + x5060))).fdiv (2 ^ 1)))), (20, .int .i64 out5794), (24, .int .i64 (w64 ((w64 ((w64 ((IntKind.u64.wrap (w64 (x5058 + x5060))).fdiv (2 ^ 1))) + x5059)) - out5794))), (195, .bool (decide (x5058 < out5794)))] w6392 (by kernel_rfl) ?_
      rcases gx_bif hm with ⟨hc6400, hm⟩ | ⟨hc6400, hm⟩
      · refine W_known 195 true (by kernel_rfl) hc6400 ?_
        refine W_run 4 [(0, .slice p5054 o6378.length c5055), (1, .int .i64 x5058), (3, .int .i64 x5060), (4, .func (.func 85) #[] #[]), (18, .int .i64 (w64 ((IntKind.u64.wrap (w64 (x5058 + x5060))).fdiv (2 ^ 1)))), (20, .int .i64 out5794), (24, .int .i64 (w64 ((w64 ((w64 ((IntKind.u64.wrap (w64 (x5058 + x5060))).fdiv (2 ^ 1))) + x5059)) - out5794))), (199, .bool (decide (out5794 < (w64 ((IntKind.u64.wrap (w64 (x5058 + x5060))).fdiv (2 ^ 1))))))] w6392 (by kernel_rfl) ?_
        refine W_nil ?_
        obtain rfl := Option.some.inj hm
        exact N_meet fun a ha => ⟨M6393.pick [0] (by kernel_rfl), ha.sub (by kernel_rfl)⟩
      refine W_known 195 false (by kernel_rfl) hc6400 ?_
      refine W_run 4 [(0, .slice p5054 o6378.length c5055), (1, .int .i64 x5058), (3, .int .i64 x5060), (4, .func (.func 85) #[] #[]), (18, .int .i64 (w64 ((IntKind.u64.wrap (w64 (x5058 + x5060))).fdiv (2 ^ 1)))), (20, .int .i64 out5794), (24, .int .i64 (w64 ((w64 ((w64 ((IntKind.u64.wrap (w64 (x5058 + x5060))).fdiv (2 ^ 1))) + x5059)) - out5794))), (199, .bool false)] w6392 (by kernel_rfl) ?_
      refine W_nil ?_
      obtain rfl := Option.some.inj hm
      exact N_meet fun a ha => ⟨M6393.pick [0] (by kernel_rfl), ha.sub (by kernel_rfl)⟩
    intro a6403 w6401 ⟨M6402, hS6404⟩
    refine N_use hS6404 ?_
    have hm := hm6399
    refine N_then ?_
    obtain ⟨o6413, ho6414, hm6415⟩ := gx_bind hm
    refine G_meet (fun a w' => ∃ (sg6416 : Seg), ownS encEvent o6413 p5054 c5055 sg6416 ∧ o6413.length = x5052.length ∧ Mem (idsOf [sg5056]) w w' [sg6416] ∧ Sat Try.f106.ntmps [(0, .slice p5054 o6413.length c5055), (3, .int .i64 x5060), (4, .func (.func 85) #[] #[]), (18, .int .i64 (w64 ((IntKind.u64.wrap (w64 (x5058 + x5060))).fdiv (2 ^ 1)))), (24, .int .i64 (w64 ((w64 ((w64 ((IntKind.u64.wrap (w64 (x5058 + x5060))).fdiv (2 ^ 1))) + x5059)) - out5794)))] a) ?_ ?_
    · have hm := ho6414
      rcases gx_bif hm with ⟨hc6419, hm⟩ | ⟨hc6419, hm⟩
      · refine G_cond_t (b := o6397) hc6419 (by kernel_rfl) ?_
        refine G_region ?_
        refine W_run 5 [(0, .slice p5054 o6378.length c5055), (3, .int .i64 x5060), (4, .func (.func 85) #[] #[]), (18, .int .i64 (w64 ((IntKind.u64.wrap (w64 (x5058 + x5060))).fdiv (2 ^ 1)))), (24, .int .i64 (w64 ((w64 ((w64 ((IntKind.u64.wrap (w64 (x5058 + x5060))).fdiv (2 ^ 1))) + x5059)) - out5794))), (200, .slice p5054 o6378.length c5055), (201, .int .i64 x5058), (202, .int .i64 out5794), (203, .int .i64 (w64 ((IntKind.u64.wrap (w64 (x5058 + x5060))).fdiv (2 ^ 1)))), (204, .func (.func 85) #[] #[])] w6401 (by kernel_rfl) ?_
        obtain ⟨r6420, hr6420, hm⟩ := gx_bind hm
        refine W_call 106 #[.slice p5054 o6378.length c5055, .int .i64 x5058, .int .i64 out5794, .int .i64 (w64 ((IntKind.u64.wrap (w64 (x5058 + x5060))).fdiv (2 ^ 1))), .func (.func 85) #[] #[]] (by kernel_rfl) (by kernel_rfl) ?_
        refine (ih_ w6401 o6378 p5054 c5055 sg6381 ho6382 x5058 out5794 (w64 ((IntKind.u64.wrap (w64 (x5058 + x5060))).fdiv (2 ^ 1))) (M6402.hasPick [0]) (M6402.nodupPick [0] (by kernel_rfl)) hr6420).mono ?_
        rintro e_ w6424 ⟨sg6421, rfl, ho6422, hl6423, K6425⟩
        have M6426 := M6402.callF' [0] [] (by kernel_rfl) K6425
        refine ⟨_, rfl, ?_⟩
        refine W_conv 0 (.slice p5054 o6378.length c5055) (.slice p5054 r6420.length c5055) (by kernel_rfl) (by first | rw [hl6423] | rw [hl6423]) ?_
        refine W_conv 200 (.slice p5054 o6378.length c5055) (.slice p5054 r6420.length c5055) (by kernel_rfl) (by first | rw [hl6423] | rw [hl6423]) ?_
        refine W_nil ?_
        obtain rfl := Option.some.inj hm
        exact N_meet fun a ha => ⟨sg6421, ho6422, (hl6423.trans hl6383), M6426.pick [0] (by kernel_rfl), ha.sub (by kernel_rfl)⟩
      refine G_cond_f (b := o6397) hc6419 (by kernel_rfl) ?_
      refine G_skip ?_
      obtain rfl := Option.some.inj hm
      exact N_meet fun a ha => ⟨sg6381, ho6382, hl6383, M6402.pick [0] (by kernel_rfl), ha.sub (by kernel_rfl)⟩
    intro a6429 w6427 ⟨sg6416, ho6417, hl6418, M6428, hS6430⟩
    refine N_use hS6430 ?_
    have hm := hm6415
    refine N_then ?_
    refine G_seq ?_
    obtain ⟨o6432, ho6433, hm6434⟩ := gx_bind hm
    refine G_meet (fun a w' => Mem (idsOf [sg5056]) w w' [sg6416] ∧ Sat Try.f106.ntmps [(0, .slice p5054 o6413.length c5055), (3, .int .i64 x5060), (4, .func (.func 85) #[] #[]), (18, .int .i64 (w64 ((IntKind.u64.wrap (w64 (x5058 + x5060))).fdiv (2 ^ 1)))), (24, .int .i64 (w64 ((w64 ((w64 ((IntKind.u64.wrap (w64 (x5058 + x5060))).fdiv (2 ^ 1))) + x5059)) - out5794))), (213, .bool o6432)] a) ?_ ?_
    · have hm := ho6433
      refine G_region ?_
      refine W_run 4 [(0, .slice p5054 o6413.length c5055), (3, .int .i64 x5060), (4, .func (.func 85) #[] #[]), (18, .int .i64 (w64 ((IntKind.u64.wrap (w64 (x5058 + x5060))).fdiv (2 ^ 1)))), (24, .int .i64 (w64 ((w64 ((w64 ((IntKind.u64.wrap (w64 (x5058 + x5060))).fdiv (2 ^ 1))) + x5059)) - out5794))), (209, .bool (decide ((w64 ((IntKind.u64.wrap (w64 (x5058 + x5060))).fdiv (2 ^ 1))) < (w64 ((w64 ((w64 ((IntKind.u64.wrap (w64 (x5058 + x5060))).fdiv (2 ^ 1))) + x5059)) - out5794)))))] w6427 (by kernel_rfl) ?_
      rcases gx_bif hm with ⟨hc6435, hm⟩ | ⟨hc6435, hm⟩
      · refine W_known 209 true (by kernel_rfl) hc6435 ?_
        refine W_run 4 [(0, .slice p5054 o6413.length c5055), (3, .int .i64 x5060), (4, .func (.func 85) #[] #[]), (18, .int .i64 (w64 ((IntKind.u64.wrap (w64 (x5058 + x5060))).fdiv (2 ^ 1)))), (24, .int .i64 (w64 ((w64 ((w64 ((IntKind.u64.wrap (w64 (x5058 + x5060))).fdiv (2 ^ 1))) + x5059)) - out5794))), (213, .bool (decide ((w64 ((w64 ((w64 ((IntKind.u64.wrap (w64 (x5058 + x5060))).fdiv (2 ^ 1))) + x5059)) - out5794)) < x5060)))] w6427 (by kernel_rfl) ?_
        refine W_nil ?_
        obtain rfl := Option.some.inj hm
        exact N_meet fun a ha => ⟨M6428.pick [0] (by kernel_rfl), ha.sub (by kernel_rfl)⟩
      refine W_known 209 false (by kernel_rfl) hc6435 ?_
      refine W_run 4 [(0, .slice p5054 o6413.length c5055), (3, .int .i64 x5060), (4, .func (.func 85) #[] #[]), (18, .int .i64 (w64 ((IntKind.u64.wrap (w64 (x5058 + x5060))).fdiv (2 ^ 1)))), (24, .int .i64 (w64 ((w64 ((w64 ((IntKind.u64.wrap (w64 (x5058 + x5060))).fdiv (2 ^ 1))) + x5059)) - out5794))), (213, .bool false)] w6427 (by kernel_rfl) ?_
      refine W_nil ?_
      obtain rfl := Option.some.inj hm
      exact N_meet fun a ha => ⟨M6428.pick [0] (by kernel_rfl), ha.sub (by kernel_rfl)⟩
    intro a6438 w6436 ⟨M6437, hS6439⟩
    refine N_use hS6439 ?_
    have hm := hm6434
    refine N_then ?_
    obtain ⟨o6448, ho6449, hm6450⟩ := gx_bind hm
    refine G_meet (fun a w' => ∃ (sg6451 : Seg), ownS encEvent o6448 p5054 c5055 sg6451 ∧ o6448.length = x5052.length ∧ Mem (idsOf [sg5056]) w w' [sg6451] ∧ Sat Try.f106.ntmps [] a) ?_ ?_
    · have hm := ho6449
      rcases gx_bif hm with ⟨hc6454, hm⟩ | ⟨hc6454, hm⟩
      · refine G_cond_t (b := o6432) hc6454 (by kernel_rfl) ?_
        refine G_region ?_
        refine W_run 5 [(214, .slice p5054 o6413.length c5055), (215, .int .i64 (w64 ((IntKind.u64.wrap (w64 (x5058 + x5060))).fdiv (2 ^ 1)))), (216, .int .i64 (w64 ((w64 ((w64 ((IntKind.u64.wrap (w64 (x5058 + x5060))).fdiv (2 ^ 1))) + x5059)) - out5794))), (217, .int .i64 x5060), (218, .func (.func 85) #[] #[])] w6436 (by kernel_rfl) ?_
        obtain ⟨r6455, hr6455, hm⟩ := gx_bind hm
        refine W_call 106 #[.slice p5054 o6413.length c5055, .int .i64 (w64 ((IntKind.u64.wrap (w64 (x5058 + x5060))).fdiv (2 ^ 1))), .int .i64 (w64 ((w64 ((w64 ((IntKind.u64.wrap (w64 (x5058 + x5060))).fdiv (2 ^ 1))) + x5059)) - out5794)), .int .i64 x5060, .func (.func 85) #[] #[]] (by kernel_rfl) (by kernel_rfl) ?_
        refine (ih_ w6436 o6413 p5054 c5055 sg6416 ho6417 (w64 ((IntKind.u64.wrap (w64 (x5058 + x5060))).fdiv (2 ^ 1))) (w64 ((w64 ((w64 ((IntKind.u64.wrap (w64 (x5058 + x5060))).fdiv (2 ^ 1))) + x5059)) - out5794)) x5060 (M6437.hasPick [0]) (M6437.nodupPick [0] (by kernel_rfl)) hr6455).mono ?_
        rintro e_ w6459 ⟨sg6456, rfl, ho6457, hl6458, K6460⟩
        have M6461 := M6437.callF' [0] [] (by kernel_rfl) K6460
        refine ⟨_, rfl, ?_⟩
        refine W_conv 214 (.slice p5054 o6413.length c5055) (.slice p5054 r6455.length c5055) (by kernel_rfl) (by first | rw [hl6458] | rw [hl6458]) ?_
        refine W_nil ?_
        obtain rfl := Option.some.inj hm
        exact N_meet fun a ha => ⟨sg6456, ho6457, (hl6458.trans hl6418), M6461.pick [0] (by kernel_rfl), ha.sub (by kernel_rfl)⟩
      refine G_cond_f (b := o6432) hc6454 (by kernel_rfl) ?_
      refine G_skip ?_
      obtain rfl := Option.some.inj hm
      exact N_meet fun a ha => ⟨sg6416, ho6417, hl6418, M6437.pick [0] (by kernel_rfl), ha.sub (by kernel_rfl)⟩
    intro a6464 w6462 ⟨sg6451, ho6452, hl6453, M6463, hS6465⟩
    refine N_use hS6465 ?_
    have hm := hm6450
    obtain rfl := Option.some.inj hm
    refine N_end [] (RVs_nil) ?_
    exact ⟨sg6451, rfl, ho6452, hl6453, M6463.pick [0] (by kernel_rfl)⟩
theorem c_slices_stableCmpFunc_92__i_merged_1 (w : World) (x4903 : List Event) (p4905 : Option Addr) (c4906 : Nat) (sg4907 : Seg) (ho4908 : ownS encEvent x4903 p4905 c4906 sg4907) (x4909 : Int) (hA : ∀ q ∈ List.flatten [sg4907], w.heap[q.1]? = some q.2) (hN : (idsOf [sg4907]).Nodup) {r : (List Event)} (hm : M.slices_stableCmpFunc_92__i_merged_1 x4903 x4909 = some r) :
    Calls Try.prog 92 #[.slice p4905 x4903.length c4906, .int .i64 x4909, .func (.func 85) #[] #[]] w fun e w' => ∃ (sg4910 : Seg), e = .returned (.tuple #[]) ∧ ownS encEvent r p4905 c4906 sg4910 ∧ r.length = x4903.length ∧ Mem (idsOf [sg4907]) w w' [sg4910] := by
  unfold M.slices_stableCmpFunc_92__i_merged_1 at hm
  refine C_enter Try.func92 rfl (by kernel_rfl) ?_
  have M0 := Mem.start' w [sg4907] hA hN
  refine G_seq ?_
  refine G_region ?_
  refine W_run 1 [(0, .slice p4905 x4903.length c4906), (1, .int .i64 x4909), (2, .func (.func 85) #[] #[]), (6, .int .i64 20)] w (by kernel_rfl) ?_
  refine W_nil ?_
  refine N_then ?_
  refine G_seq ?_
  refine G_region ?_
  refine W_run 3 [(0, .slice p4905 x4903.length c4906), (1, .int .i64 x4909), (2, .func (.func 85) #[] #[]), (6, .int .i64 20), (7, .int .i64 0), (8, .int .i64 20)] w (by kernel_rfl) ?_
  refine W_nil ?_
  refine N_then ?_
  refine G_seq ?_
  obtain ⟨out4937, hw4938, hmo4939⟩ := gx_bind hm
  refine G_meet (fun a w' => ∃ (sg4944 : Seg), ownS encEvent out4937.2 p4905 c4906 sg4944 ∧ out4937.2.length = x4903.length ∧ Mem (idsOf [sg4907]) w w' [sg4944] ∧ Sat Try.f92.ntmps [(0, .slice p4905 out4937.2.length c4906), (1, .int .i64 x4909), (2, .func (.func 85) #[] #[]), (6, .int .i64 20), (7, .int .i64 out4937.1)] a) ?_ ?_
  · refine G_block ?_
    refine G_while (σ := Int × Int × List Event) (ρ := Int × List Event) (fun s4930 a w' => ∃ (sg4940 : Seg), ownS encEvent s4930.2.2 p4905 c4906 sg4940 ∧ s4930.2.2.length = x4903.length ∧ Mem (idsOf [sg4907]) w w' [sg4940] ∧ Sat Try.f92.ntmps [(0, .slice p4905 s4930.2.2.length c4906), (1, .int .i64 x4909), (2, .func (.func 85) #[] #[]), (6, .int .i64 20), (7, .int .i64 s4930.1), (8, .int .i64 s4930.2.1)] a) hw4938 (fun a ha => ⟨sg4907, ho4908, rfl, M0.pick [0] (by kernel_rfl), ha.sub (by kernel_rfl)⟩) ?_
    clear hm
    intro s4930 x4931 hm hout4932 a4933 w4934 ⟨sg4940, ho4941, hl4942, M4935, hS4936⟩
    refine G_use hS4936 ?_
    refine G_seq ?_
    refine G_seq ?_
    refine G_region ?_
    refine W_run 3 [(0, .slice p4905 s4930.2.2.length c4906), (1, .int .i64 x4909), (2, .func (.func 85) #[] #[]), (6, .int .i64 20), (7, .int .i64 s4930.1), (8, .int .i64 s4930.2.1), (13, .bool (decide (s4930.2.1 ≤ x4909)))] w4934 (by kernel_rfl) ?_
    refine W_nil ?_
    refine N_then ?_
    rcases gx_bif hm with ⟨hc4947, hm⟩ | ⟨hc4947, hm⟩
    · refine G_cond_t (b := (decide (s4930.2.1 ≤ x4909))) hc4947 (by kernel_rfl) ?_
      refine G_skip ?_
      refine N_then ?_
      refine G_block ?_
      refine G_seq ?_
      refine G_region ?_
      refine W_run 4 [(0, .slice p4905 s4930.2.2.length c4906), (1, .int .i64 x4909), (2, .func (.func 85) #[] #[]), (6, .int .i64 20), (8, .int .i64 s4930.2.1), (14, .slice p4905 s4930.2.2.length c4906), (15, .int .i64 s4930.1), (16, .int .i64 s4930.2.1), (17, .func (.func 85) #[] #[])] w4934 (by kernel_rfl) ?_
      obtain ⟨r4948, hr4948, hm⟩ := gx_bind hm
      refine W_call 105 #[.slice p4905 s4930.2.2.length c4906, .int .i64 s4930.1, .int .i64 s4930.2.1, .func (.func 85) #[] #[]] (by kernel_rfl) (by kernel_rfl) ?_
      refine (c_slices_insertionSortCmpFunc_105__i_merged_1 w4934 s4930.2.2 p4905 c4906 sg4940 ho4941 s4930.1 s4930.2.1 (M4935.hasPick [0]) (M4935.nodupPick [0] (by kernel_rfl)) hr4948).mono ?_
      rintro e_ w4952 ⟨sg4949, rfl, ho4950, hl4951, K4953⟩
      have M4954 := M4935.callF' [0] [] (by kernel_rfl) K4953
      refine ⟨_, rfl, ?_⟩
      refine W_conv 0 (.slice p4905 s4930.2.2.length c4906) (.slice p4905 r4948.length c4906) (by kernel_rfl) (by first | rw [hl4951] | rw [hl4951]) ?_
      refine W_conv 14 (.slice p4905 s4930.2.2.length c4906) (.slice p4905 r4948.length c4906) (by kernel_rfl) (by first | rw [hl4951] | rw [hl4951]) ?_
      refine W_nil ?_
      refine N_then ?_
      refine G_seq ?_
      refine G_region ?_
      refine W_run 2 [(0, .slice p4905 r4948.length c4906), (1, .int .i64 x4909), (2, .func (.func 85) #[] #[]), (6, .int .i64 20), (7, .int .i64 s4930.2.1), (8, .int .i64 s4930.2.1)] w4952 (by kernel_rfl) ?_
      refine W_nil ?_
      refine N_then ?_
      refine G_region ?_
      refine W_run 4 [(0, .slice p4905 r4948.length c4906), (1, .int .i64 x4909), (2, .func (.func 85) #[] #[]), (6, .int .i64 20), (7, .int .i64 s4930.2.1), (8, .int .i64 (w64 (s4930.2.1 + 20)))] w4952 (by kernel_rfl) ?_
      refine W_nil ?_
      refine N_block ?_
      obtain rfl := Option.some.inj hm
      exact N_loop fun a ha => ⟨_, rfl, sg4949, ho4950, (hl4951.trans hl4942), M4954.pick [0] (by kernel_rfl), ha.sub (by kernel_rfl)⟩
    refine G_cond_f (b := (decide (s4930.2.1 ≤ x4909))) hc4947 (by kernel_rfl) ?_
    refine G_exit ?_
    refine N_then_exit ?_
    refine N_then_exit ?_
    refine N_block_eq ?_
    obtain rfl := Option.some.inj hm
    obtain rfl := hout4932 _ rfl
    exact N_meet fun a ha => ⟨sg4940, ho4941, hl4942, M4935.pick [0] (by kernel_rfl), ha.sub (by kernel_rfl)⟩
  intro a4955 w4956 ⟨sg4944, ho4945, hl4946, M4957, hS4958⟩
  refine N_use hS4958 ?_
  have hm := hmo4939
  refine N_then ?_
  refine G_seq ?_
  refine G_region ?_
  refine W_run 4 [(0, .slice p4905 out4937.2.length c4906), (1, .int .i64 x4909), (2, .func (.func 85) #[] #[]), (6, .int .i64 20), (23, .slice p4905 out4937.2.length c4906), (24, .int .i64 out4937.1), (25, .int .i64 x4909), (26, .func (.func 85) #[] #[])] w4956 (by kernel_rfl) ?_
  obtain ⟨r4959, hr4959, hm⟩ := gx_bind hm
  refine W_call 105 #[.slice p4905 out4937.2.length c4906, .int .i64 out4937.1, .int .i64 x4909, .func (.func 85) #[] #[]] (by kernel_rfl) (by kernel_rfl) ?_
  refine (c_slices_insertionSortCmpFunc_105__i_merged_1 w4956 out4937.2 p4905 c4906 sg4944 ho4945 out4937.1 x4909 (M4957.hasPick [0]) (M4957.nodupPick [0] (by kernel_rfl)) hr4959).mono ?_
  rintro e_ w4963 ⟨sg4960, rfl, ho4961, hl4962, K4964⟩
  have M4965 := M4957.callF' [0] [] (by kernel_rfl) K4964
  refine ⟨_, rfl, ?_⟩
  refine W_conv 0 (.slice p4905 out4937.2.length c4906) (.slice p4905 r4959.length c4906) (by kernel_rfl) (by first | rw [hl4962] | rw [hl4962]) ?_
  refine W_conv 23 (.slice p4905 out4937.2.length c4906) (.slice p4905 r4959.length c4906) (by kernel_rfl) (by first | rw [hl4962] | rw [hl4962]) ?_
  refine W_nil ?_
  refine N_then ?_
  obtain ⟨out6624, hw6625, hmo6626⟩ := gx_bind hm
  refine G_meet (fun a w' => ∃ (sg6631 : Seg), ownS encEvent out6624 p4905 c4906 sg6631 ∧ out6624.length = x4903.length ∧ Mem (idsOf [sg4907]) w w' [sg6631] ∧ Sat Try.f92.ntmps [] a) ?_ ?_
  · refine G_block ?_
    refine G_while (σ := Int × List Event) (ρ := List Event) (fun s6617 a w' => ∃ (sg6627 : Seg), ownS encEvent s6617.2 p4905 c4906 sg6627 ∧ s6617.2.length = x4903.length ∧ Mem (idsOf [sg4907]) w w' [sg6627] ∧ Sat Try.f92.ntmps [(0, .slice p4905 s6617.2.length c4906), (1, .int .i64 x4909), (2, .func (.func 85) #[] #[]), (6, .int .i64 s6617.1)] a) hw6625 (fun a ha => ⟨sg4960, ho4961, (hl4962.trans hl4946), M4965.pick [0] (by kernel_rfl), ha.sub (by kernel_rfl)⟩) ?_
    clear hm
    intro s6617 x6618 hm hout6619 a6620 w6621 ⟨sg6627, ho6628, hl6629, M6622, hS6623⟩
    refine G_use hS6623 ?_
    refine G_seq ?_
    refine G_seq ?_
    refine G_region ?_
    refine W_run 3 [(0, .slice p4905 s6617.2.length c4906), (1, .int .i64 x4909), (2, .func (.func 85) #[] #[]), (6, .int .i64 s6617.1), (30, .bool (decide (s6617.1 < x4909)))] w6621 (by kernel_rfl) ?_
    refine W_nil ?_
    refine N_then ?_
    rcases gx_bif hm with ⟨hc6634, hm⟩ | ⟨hc6634, hm⟩
    · refine G_cond_t (b := (decide (s6617.1 < x4909))) hc6634 (by kernel_rfl) ?_
      refine G_skip ?_
      refine N_then ?_
      refine G_block ?_
      refine G_seq ?_
      refine G_region ?_
      refine W_run 4 [(0, .slice p4905 s6617.2.length c4906), (1, .int .i64 x4909), (2, .func (.func 85) #[] #[]), (6, .int .i64 s6617.1), (7, .int .i64 0), (8, .int .i64 (w64 (2 * s6617.1)))] w6621 (by kernel_rfl) ?_
      refine W_nil ?_
      refine N_then ?_
      refine G_seq ?_
      obtain ⟨out6661, hw6662, hmo6663⟩ := gx_bind hm
      refine G_meet (fun a w' => ∃ (sg6668 : Seg), ownS encEvent out6661.2 p4905 c4906 sg6668 ∧ out6661.2.length = x4903.length ∧ Mem (idsOf [sg4907]) w w' [sg6668] ∧ Sat Try.f92.ntmps [(0, .slice p4905 out6661.2.length c4906), (1, .int .i64 x4909), (2, .func (.func 85) #[] #[]), (6, .int .i64 s6617.1), (7, .int .i64 out6661.1)] a) ?_ ?_
      · refine G_block ?_
        refine G_while (σ := Int × Int × List Event) (ρ := Int × List Event) (fun s6654 a w' => ∃ (sg6664 : Seg), ownS encEvent s6654.2.2 p4905 c4906 sg6664 ∧ s6654.2.2.length = x4903.length ∧ Mem (idsOf [sg4907]) w w' [sg6664] ∧ Sat Try.f92.ntmps [(0, .slice p4905 s6654.2.2.length c4906), (1, .int .i64 x4909), (2, .func (.func 85) #[] #[]), (6, .int .i64 s6617.1), (7, .int .i64 s6654.1), (8, .int .i64 s6654.2.1)] a) hw6662 (fun a ha => ⟨sg6627, ho6628, hl6629, M6622.pick [0] (by kernel_rfl), ha.sub (by kernel_rfl)⟩) ?_
        clear hm
        intro s6654 x6655 hm hout6656 a6657 w6658 ⟨sg6664, ho6665, hl6666, M6659, hS6660⟩
        refine G_use hS6660 ?_
        refine G_seq ?_
        refine G_seq ?_
        refine G_region ?_
        refine W_run 3 [(0, .slice p4905 s6654.2.2.length c4906), (1, .int .i64 x4909), (2, .func (.func 85) #[] #[]), (6, .int .i64 s6617.1), (7, .int .i64 s6654.1), (8, .int .i64 s6654.2.1), (35, .bool (decide (s6654.2.1 ≤ x4909)))] w6658 (by kernel_rfl) ?_
        refine W_nil ?_
        refine N_then ?_
        rcases gx_bif hm with ⟨hc6671, hm⟩ | ⟨hc6671, hm⟩
        · refine G_cond_t (b := (decide (s6654.2.1 ≤ x4909))) hc6671 (by kernel_rfl) ?_
          refine G_skip ?_
          refine N_then ?_
          refine G_block ?_
          refine G_seq ?_
          refine G_region ?_
          refine W_run 7 [(0, .slice p4905 s6654.2.2.length c4906), (1, .int .i64 x4909), (2, .func (.func 85) #[] #[]), (6, .int .i64 s6617.1), (8, .int .i64 s6654.2.1), (36, .slice p4905 s6654.2.2.length c4906), (37, .int .i64 s6654.1), (40, .int .i64 (w64 (s6654.1 + s6617.1))), (41, .int .i64 s6654.2.1), (42, .func (.func 85) #[] #[])] w6658 (by kernel_rfl) ?_
          obtain ⟨r6672, hr6672, hm⟩ := gx_bind hm
          refine W_call 106 #[.slice p4905 s6654.2.2.length c4906, .int .i64 s6654.1, .int .i64 (w64 (s6654.1 + s6617.1)), .int .i64 s6654.2.1, .func (.func 85) #[] #[]] (by kernel_rfl) (by kernel_rfl) ?_
          refine (c_slices_symMergeCmpFunc_106__i_merged_1 gxFuel w6658 s6654.2.2 p4905 c4906 sg6664 ho6665 s6654.1 (w64 (s6654.1 + s6617.1)) s6654.2.1 (M6659.hasPick [0]) (M6659.nodupPick [0] (by kernel_rfl)) hr6672).mono ?_
          rintro e_ w6676 ⟨sg6673, rfl, ho6674, hl6675, K6677⟩
          have M6678 := M6659.callF' [0] [] (by kernel_rfl) K6677
          refine ⟨_, rfl, ?_⟩
          refine W_conv 0 (.slice p4905 s6654.2.2.length c4906) (.slice p4905 r6672.length c4906) (by kernel_rfl) (by first | rw [hl6675] | rw [hl6675]) ?_
          refine W_conv 36 (.slice p4905 s6654.2.2.length c4906) (.slice p4905 r6672.length c4906) (by kernel_rfl) (by first | rw [hl6675] | rw [hl6675]) ?_
          refine W_nil ?_
          refine N_then ?_
          refine G_seq ?_
          refine G_region ?_
          refine W_run 2 [(0, .slice p4905 r6672.length c4906), (1, .int .i64 x4909), (2, .func (.func 85) #[] #[]), (6, .int .i64 s6617.1), (7, .int .i64 s6654.2.1), (8, .int .i64 s6654.2.1)] w6676 (by kernel_rfl) ?_
          refine W_nil ?_
          refine N_then ?_
          refine G_region ?_
          refine W_run 5 [(0, .slice p4905 r6672.length c4906), (1, .int .i64 x4909), (2, .func (.func 85) #[] #[]), (6, .int .i64 s6617.1), (7, .int .i64 s6654.2.1), (8, .int .i64 (w64 (s6654.2.1 + (w64 (2 * s6617.1)))))] w6676 (by kernel_rfl) ?_
          refine W_nil ?_
          refine N_block ?_
          obtain rfl := Option.some.inj hm
          exact N_loop fun a ha => ⟨_, rfl, sg6673, ho6674, (hl6675.trans hl6666), M6678.pick [0] (by kernel_rfl), ha.sub (by kernel_rfl)⟩
        refine G_cond_f (b := (decide (s6654.2.1 ≤ x4909))) hc6671 (by kernel_rfl) ?_
        refine G_exit ?_
        refine N_then_exit ?_
        refine N_then_exit ?_
        refine N_block_eq ?_
        obtain rfl := Option.some.inj hm
        obtain rfl := hout6656 _ rfl
        exact N_meet fun a ha => ⟨sg6664, ho6665, hl6666, M6659.pick [0] (by kernel_rfl), ha.sub (by kernel_rfl)⟩
      intro a6679 w6680 ⟨sg6668, ho6669, hl6670, M6681, hS6682⟩
      refine N_use hS6682 ?_
      have hm := hmo6663
      refine N_then ?_
      refine G_seq ?_
      refine G_seq ?_
      refine G_region ?_
      refine W_run 4 [(0, .slice p4905 out6661.2.length c4906), (1, .int .i64 x4909), (2, .func (.func 85) #[] #[]), (6, .int .i64 s6617.1), (7, .int .i64 out6661.1), (9, .int .i64 (w64 (out6661.1 + s6617.1)))] w6680 (by kernel_rfl) ?_
      refine W_nil ?_
      refine N_then ?_
      refine G_seq ?_
      refine G_region ?_
      refine W_run 3 [(0, .slice p4905 out6661.2.length c4906), (1, .int .i64 x4909), (2, .func (.func 85) #[] #[]), (6, .int .i64 s6617.1), (7, .int .i64 out6661.1), (9, .int .i64 (w64 (out6661.1 + s6617.1))), (54, .bool (decide ((w64 (out6661.1 + s6617.1)) < x4909)))] w6680 (by kernel_rfl) ?_
      refine W_nil ?_
      refine N_then ?_
      obtain ⟨o6691, ho6692, hm6693⟩ := gx_bind hm
      refine G_meet (fun a w' => ∃ (sg6694 : Seg), ownS encEvent o6691 p4905 c4906 sg6694 ∧ o6691.length = x4903.length ∧ Mem (idsOf [sg4907]) w w' [sg6694] ∧ Sat Try.f92.ntmps [(0, .slice p4905 o6691.length c4906), (1, .int .i64 x4909), (2, .func (.func 85) #[] #[]), (6, .int .i64 s6617.1)] a) ?_ ?_
      · have hm := ho6692
        rcases gx_bif hm with ⟨hc6697, hm⟩ | ⟨hc6697, hm⟩
        · refine G_cond_t (b := (decide ((w64 (out6661.1 + s6617.1)) < x4909))) hc6697 (by kernel_rfl) ?_
          refine G_region ?_
          refine W_run 5 [(0, .slice p4905 out6661.2.length c4906), (1, .int .i64 x4909), (2, .func (.func 85) #[] #[]), (6, .int .i64 s6617.1), (55, .slice p4905 out6661.2.length c4906), (56, .int .i64 out6661.1), (57, .int .i64 (w64 (out6661.1 + s6617.1))), (58, .int .i64 x4909), (59, .func (.func 85) #[] #[])] w6680 (by kernel_rfl) ?_
          obtain ⟨r6698, hr6698, hm⟩ := gx_bind hm
          refine W_call 106 #[.slice p4905 out6661.2.length c4906, .int .i64 out6661.1, .int .i64 (w64 (out6661.1 + s6617.1)), .int .i64 x4909, .func (.func 85) #[] #[]] (by kernel_rfl) (by kernel_rfl) ?_
          refine (c_slices_symMergeCmpFunc_106__i_merged_1 gxFuel w6680 out6661.2 p4905 c4906 sg6668 ho6669 out6661.1 (w64 (out6661.1 + s6617.1)) x4909 (M6681.hasPick [0]) (M6681.nodupPick [0] (by kernel_rfl)) hr6698).mono ?_
          rintro e_ w6702 ⟨sg6699, rfl, ho6700, hl6701, K6703⟩
          have M6704 := M6681.callF' [0] [] (by kernel_rfl) K6703
          refine ⟨_, rfl, ?_⟩
          refine W_conv 0 (.slice p4905 out6661.2.length c4906) (.slice p4905 r6698.length c4906) (by kernel_rfl) (by first | rw [hl6701] | rw [hl6701]) ?_
          refine W_conv 55 (.slice p4905 out6661.2.length c4906) (.slice p4905 r6698.length c4906) (by kernel_rfl) (by first | rw [hl6701] | rw [hl6701]) ?_
          refine W_nil ?_
          obtain rfl := Option.some.inj hm
          exact N_meet fun a ha => ⟨sg6699, ho6700, (hl6701.trans hl6670), M6704.pick [0] (by kernel_rfl), ha.sub (by kernel_rfl)⟩
        refine G_cond_f (b := (decide ((w64 (out6661.1 + s6617.1)) < x4909))) hc6697 (by kernel_rfl) ?_
        refine G_skip ?_
        obtain rfl := Option.some.inj hm
        exact N_meet fun a ha => ⟨sg6668, ho6669, hl6670, M6681.pick [0] (by kernel_rfl), ha.sub (by kernel_rfl)⟩
      intro a6707 w6705 ⟨sg6694, ho6695, hl6696, M6706, hS6708⟩
      refine N_use hS6708 ?_
      have hm := hm6693
      refine N_then ?_
      refine G_region ?_
      refine W_run 3 [(0, .slice p4905 o6691.length c4906), (1, .int .i64 x4909), (2, .func (.func 85) #[] #[]), (6, .int .i64 (w64 (s6617.1 * 2)))] w6705 (by kernel_rfl) ?_
      refine W_nil ?_
      refine N_block ?_
      obtain rfl := Option.some.inj hm
      exact N_loop fun a ha => ⟨_, rfl, sg6694, ho6695, hl6696, M6706.pick [0] (by kernel_rfl), ha.sub (by kernel_rfl)⟩
    refine G_cond_f (b := (decide (s6617.1 < x4909))) hc6634 (by kernel_rfl) ?_
    refine G_exit ?_
    refine N_then_exit ?_
    refine N_then_exit ?_
    refine N_block_eq ?_
    obtain rfl := Option.some.inj hm
    obtain rfl := hout6619 _ rfl
    exact N_meet fun a ha => ⟨sg6627, ho6628, hl6629, M6622.pick [0] (by kernel_rfl), ha.sub (by kernel_rfl)⟩
  intro a6709 w6710 ⟨sg6631, ho6632, hl6633, M6711, hS6712⟩
  refine N_use hS6712 ?_
  have hm := hmo6626
  obtain rfl := Option.some.inj hm
  refine N_end [] (RVs_nil) ?_
  exact ⟨sg6631, rfl, ho6632, hl6633, M6711.pick [0] (by kernel_rfl)⟩
theorem c_slices_SortStableFunc_84__i_merged_1 (w : World) (x6714 : List Event) (p6716 : Option Addr) (c6717 : Nat) (sg6718 : Seg) (ho6719 : ownS encEvent x6714 p6716 c6717 sg6718) (hA : ∀ q ∈ List.flatten [sg6718], w.heap[q.1]? = some q.2) (hN : (idsOf [sg6718]).Nodup) {r : (List Event)} (hm : M.slices_SortStableFunc_84__i_merged_1 x6714 = some r) :
    Calls Try.prog 84 #[.slice p6716 x6714.length c6717, .func (.func 85) #[] #[]] w fun e w' => ∃ (sg6720 : Seg), e = .returned (.tuple #[]) ∧ ownS encEvent r p6716 c6717 sg6720 ∧ r.length = x6714.length ∧ Mem (idsOf [sg6718]) w w' [sg6720] := by
  unfold M.slices_SortStableFunc_84__i_merged_1 at hm
  refine C_enter Try.func84 rfl (by kernel_rfl) ?_
  have M0 := Mem.start' w [sg6718] hA hN
  refine G_region ?_
  refine W_run 4 [(4, .slice p6716 x6714.length c6717), (6, .int .i64 (x6714.length : Int)), (7, .func (.func 85) #[] #[])] w (by kernel_rfl) ?_
  obtain ⟨r6721, hr6721, hm⟩ := gx_bind hm
  refine W_call 92 #[.slice p6716 x6714.length c6717, .int .i64 (x6714.length : Int), .func (.func 85) #[] #[]] (by kernel_rfl) (by kernel_rfl) ?_
  refine (c_slices_stableCmpFunc_92__i_merged_1 w x6714 p6716 c6717 sg6718 ho6719 (x6714.length : Int) (M0.hasPick [0]) (M0.nodupPick [0] (by kernel_rfl)) hr6721).mono ?_
  rintro e_ w6725 ⟨sg6722, rfl, ho6723, hl6724, K6726⟩
  have M6727 := M0.callF' [0] [] (by kernel_rfl) K6726
  refine ⟨_, rfl, ?_⟩
  refine W_conv 4 (.slice p6716 x6714.length c6717) (.slice p6716 r6721.length c6717) (by kernel_rfl) (by first | rw [hl6724] | rw [hl6724]) ?_
  refine W_nil ?_
  obtain rfl := Option.some.inj hm
  refine N_end [] (RVs_nil) ?_
  exact ⟨sg6722, rfl, ho6723, (hl6724.trans rfl), M6727.pick [0] (by kernel_rfl)⟩
theorem c_i_merged (w : World) (x3517 : List Event) (p3519 : Option Addr) (c3520 : Nat) (h3521 : rdS encEvent w x3517 p3519 c3520) (x3522 : List Event) (p3524 : Option Addr) (c3525 : Nat) (h3526 : rdS encEvent w x3522 p3524 c3525) {r : (List Event) × Bool} (hm : M.i_merged x3517 x3522 = some r) :
    Calls Try.prog 69 #[.slice p3519 x3517.length c3520, .slice p3524 x3522.length c3525] w fun e w' => ∃ (p3528 : Option Addr) (c3529 : Nat) (sg3530 : Seg), e = .returned (.tuple #[.slice p3528 r.1.length c3529, .bool r.2]) ∧ ownS encEvent r.1 p3528 c3529 sg3530 ∧ Mem [] w w' [sg3530] := by
  unfold M.i_merged at hm
  refine C_enter Try.func69 rfl (by kernel_rfl) ?_
  have M0 := Mem.refl [] w
  refine G_seq ?_
  refine G_region ?_
  refine W_run 2 [(0, .slice p3519 x3517.length c3520), (1, .slice p3524 x3522.length c3525)] w (by kernel_rfl) ?_
  refine W_nil ?_
  refine N_then ?_
  refine G_seq ?_
  refine G_region ?_
  refine W_lit (E := encEvent) ([] : List Event) 0 [] 26 M0 (by kernel_rfl) (by kernel_rfl) (by kernel_rfl) (by kernel_rfl) (by kernel_rfl) ?_
  intro p3532 c3533 sg3534 w3535 ho3536 M3537
  refine W_run 2 [(7, .slice p3532 ([] : List Event).length c3533), (8, .slice p3519 x3517.length c3520), (9, .slice p3524 x3522.length c3525)] w3535 (by kernel_rfl) ?_
  refine W_lit (E := (deepL encEvent).E) [(([] : List Event), plOf [(p3532, c3533)]), (x3517, plOf [(p3519, c3520)]), (x3522, plOf [(p3524, c3525)])] 3 [.slice p3532 ([] : List Event).length c3533, .slice p3519 x3517.length c3520, .slice p3524 x3522.length c3525] 32 M3537 (by kernel_rfl) (by kernel_rfl) (by kernel_rfl) (by kernel_rfl) (by kernel_rfl) ?_
  intro p3542 c3543 sg3544 w3545 ho3546 M3547
  obtain ⟨r3701, hr3701, hm⟩ := gx_bind hm
  refine W_call 83 #[.slice p3542 [([] : List Event), x3517, x3522].length c3543] (by kernel_rfl) (by kernel_rfl) ?_
  refine (c_slices_Concat_83 w3545 [([] : List Event), x3517, x3522] p3542 c3543 ⟨[(([] : List Event), plOf [(p3532, c3533)]), (x3517, plOf [(p3519, c3520)]), (x3522, plOf [(p3524, c3525)])], rfl, ho3546.rd M3547 1 (by kernel_rfl), (rdI_cons (ho3536.rd M3547 0 (by kernel_rfl)) (rdI_cons (h3521.mem0 M3547) (rdI_cons (h3526.mem0 M3547) rdI_nil)))⟩ hr3701).mono ?_
  rintro e_ w3707 ⟨p3703, c3704, sg3705, rfl, ho3706, K3708⟩
  have M3709 := M3547.call K3708
  refine ⟨_, rfl, ?_⟩
  refine W_run 1 [(6, .slice p3703 r3701.length c3704)] w3707 (by kernel_rfl) ?_
  refine W_nil ?_
  refine N_then ?_
  refine G_seq ?_
  refine G_region ?_
  refine W_run 1 [(6, .slice p3703 r3701.length c3704), (12, .slice p3703 r3701.length c3704)] w3707 (by kernel_rfl) ?_
  obtain ⟨r6728, hr6728, hm⟩ := gx_bind hm
  refine W_call 84 #[.slice p3703 r3701.length c3704, .func (.func 85) #[] #[]] (by kernel_rfl) (by kernel_rfl) ?_
  refine (c_slices_SortStableFunc_84__i_merged_1 w3707 r3701 p3703 c3704 sg3705 ho3706 (M3709.hasPick [2]) (M3709.nodupPick [2] (by kernel_rfl)) hr6728).mono ?_
  rintro e_ w6732 ⟨sg6729, rfl, ho6730, hl6731, K6733⟩
  have M6734 := M3709.callF' [2] [0, 1] (by kernel_rfl) K6733
  refine ⟨_, rfl, ?_⟩
  refine W_conv 6 (.slice p3703 r3701.length c3704) (.slice p3703 r6728.length c3704) (by kernel_rfl) (by first | rw [hl6731] | rw [hl6731]) ?_
  refine W_conv 12 (.slice p3703 r3701.length c3704) (.slice p3703 r6728.length c3704) (by kernel_rfl) (by first | rw [hl6731] | rw [hl6731]) ?_
  refine W_nil ?_
  refine N_then ?_
  refine G_seq ?_
  refine G_seq ?_
  refine G_region ?_
  refine W_run 1 [(6, .slice p3703 r6728.length c3704), (14, .slice p3703 r6728.length c3704)] w6732 (by kernel_rfl) ?_
  obtain ⟨r6735, hr6735, hm⟩ := gx_bind hm
  refine W_call 20 #[.slice p3703 r6728.length c3704] (by kernel_rfl) (by kernel_rfl) ?_
  refine (c_i_IsRecord w6732 r6728 p3703 c3704 (ho6730.rd M6734 2 (by kernel_rfl)) hr6735).mono ?_
  rintro e_ w6736 ⟨rfl, K6737⟩
  have M6738 := M6734.call0 K6737
  refine ⟨_, rfl, ?_⟩
  refine W_run 1 [(6, .slice p3703 r6728.length c3704), (16, .bool (!r6735))] w6736 (by kernel_rfl) ?_
  refine W_nil ?_
  refine N_then ?_
  rcases gx_bif hm with ⟨hc6739, hm⟩ | ⟨hc6739, hm⟩
  · refine G_cond_t (b := (!r6735)) hc6739 (by kernel_rfl) ?_
    refine G_seq ?_
    refine G_region ?_
    refine W_run 2 [(4, .slice none 0 0), (5, .bool false)] w6736 (by kernel_rfl) ?_
    refine W_nil ?_
    refine N_then ?_
    refine G_ret ?_
    refine N_then_ret ?_
    obtain rfl := Option.some.inj hm
    refine N_ret [.slice none 0 0, .bool false] (RVs_cons (RV_tmp (by kernel_rfl)) (RVs_cons (RV_tmp (by kernel_rfl)) RVs_nil)) ?_
    exact ⟨none, 0, [], rfl, ownS_nil, M6738.pick [100000] (by kernel_rfl)⟩
  refine G_cond_f (b := (!r6735)) hc6739 (by kernel_rfl) ?_
  refine G_skip ?_
  refine N_then ?_
  refine G_seq ?_
  refine G_region ?_
  refine W_run 3 [(4, .slice p3703 r6728.length c3704), (5, .bool true)] w6736 (by kernel_rfl) ?_
  refine W_nil ?_
  refine N_then ?_
  refine G_ret ?_
  obtain rfl := Option.some.inj hm
  refine N_ret [.slice p3703 r6728.length c3704, .bool true] (RVs_cons (RV_tmp (by kernel_rfl)) (RVs_cons (RV_tmp (by kernel_rfl)) RVs_nil)) ?_
  exact ⟨p3703, c3704, sg6729, rfl, ho6730, M6738.pick [2] (by kernel_rfl)⟩
theorem c_i_AddEvent (w : World) (x3489 : List Event) (p3491 : Option Addr) (c3492 : Nat) (h3493 : rdS encEvent w x3489 p3491 c3492) (x3494 : Event) {r : (List Event) × Bool} (hm : M.i_AddEvent x3489 x3494 = some r) :
    Calls Try.prog 33 #[.slice p3491 x3489.length c3492, .agg #[.int .i64 x3494.Tick, .int .i64 x3494.Guest, .string x3494.Kind, .int .i64 x3494.Value]] w fun e w' => ∃ (p3496 : Option Addr) (c3497 : Nat) (sg3498 : Seg), e = .returned (.tuple #[.slice p3496 r.1.length c3497, .bool r.2]) ∧ ownS encEvent r.1 p3496 c3497 sg3498 ∧ Mem [] w w' [sg3498] := by
  unfold M.i_AddEvent at hm
  refine C_enter Try.func33 rfl (by kernel_rfl) ?_
  have M0 := Mem.refl [] w
  refine G_seq ?_
  refine G_region ?_
  refine W_new (fun b => .pointer (some ⟨b, 0, none⟩)) (.cells ⟨[.int .i64 x3494.Tick, .int .i64 x3494.Guest, .string x3494.Kind, .int .i64 x3494.Value]⟩ 26 (0, 0)) M0 rfl (by kernel_rfl) (by kernel_rfl) ?_
  intro b3500 w3501 M3502
  refine W_run 2 [(0, .slice p3491 x3489.length c3492), (3, .pointer (some ⟨b3500, 0, none⟩))] w3501 (by kernel_rfl) ?_
  refine W_nil ?_
  refine N_then ?_
  refine G_seq ?_
  refine G_seq ?_
  refine G_region ?_
  refine W_run 1 [(0, .slice p3491 x3489.length c3492), (3, .pointer (some ⟨b3500, 0, none⟩)), (6, .slice p3491 x3489.length c3492)] w3501 (by kernel_rfl) ?_
  obtain ⟨r3504, hr3504, hm⟩ := gx_bind hm
  refine W_call 20 #[.slice p3491 x3489.length c3492] (by kernel_rfl) (by kernel_rfl) ?_
  refine (c_i_IsRecord w3501 x3489 p3491 c3492 (h3493.mem0 M3502) hr3504).mono ?_
  rintro e_ w3505 ⟨rfl, K3506⟩
  have M3507 := M3502.call0 K3506
  refine ⟨_, rfl, ?_⟩
  refine W_run 1 [(0, .slice p3491 x3489.length c3492), (3, .pointer (some ⟨b3500, 0, none⟩)), (8, .bool (!r3504))] w3505 (by kernel_rfl) ?_
  refine W_nil ?_
  refine N_then ?_
  rcases gx_bif hm with ⟨hc3508, hm⟩ | ⟨hc3508, hm⟩
  · refine G_cond_t (b := (!r3504)) hc3508 (by kernel_rfl) ?_
    refine G_seq ?_
    refine G_region ?_
    refine W_run 2 [(4, .slice none 0 0), (5, .bool false)] w3505 (by kernel_rfl) ?_
    refine W_nil ?_
    refine N_then ?_
    refine G_ret ?_
    refine N_then_ret ?_
    obtain rfl := Option.some.inj hm
    refine N_ret [.slice none 0 0, .bool false] (RVs_cons (RV_tmp (by kernel_rfl)) (RVs_cons (RV_tmp (by kernel_rfl)) RVs_nil)) ?_
    exact ⟨none, 0, [], rfl, ownS_nil, M3507.pick [100000] (by kernel_rfl)⟩
  refine G_cond_f (b := (!r3504)) hc3508 (by kernel_rfl) ?_
  refine G_skip ?_
  refine N_then ?_
  refine G_seq ?_
  refine G_region ?_
  refine W_run 1 [(3, .pointer (some ⟨b3500, 0, none⟩)), (9, .slice p3491 x3489.length c3492)] w3505 (by kernel_rfl) ?_
  refine W_val (.agg #[.int .i64 x3494.Tick, .int .i64 x3494.Guest, .string x3494.Kind, .int .i64 x3494.Value]) w3505 (by kernel_rfl) (E_load (e := 26) (fr := (0, 0)) _ _ true 4 b3500 0 [.int .i64 x3494.Tick, .int .i64 x3494.Guest, .string x3494.Kind, .int .i64 x3494.Value] (.agg #[.int .i64 x3494.Tick, .int .i64 x3494.Guest, .string x3494.Kind, .int .i64 x3494.Value]) rfl (by kernel_rfl) (by kernel_rfl) (by kernel_rfl) (M3507.blk 0 (b := b3500) (o := .cells ⟨[.int .i64 x3494.Tick, .int .i64 x3494.Guest, .string x3494.Kind, .int .i64 x3494.Value]⟩ 26 (0, 0)) (by kernel_rfl))) ?_
  refine W_lit (E := encEvent) [x3494] 1 [.int .i64 x3494.Tick, .int .i64 x3494.Guest, .string x3494.Kind, .int .i64 x3494.Value] 26 M3507 (by kernel_rfl) (by kernel_rfl) (by kernel_rfl) (by kernel_rfl) (by kernel_rfl) ?_
  intro p3510 c3511 sg3512 w3513 ho3514 M3515
  obtain ⟨r6741, hr6741, hm⟩ := gx_bind hm
  refine W_call 69 #[.slice p3491 x3489.length c3492, .slice p3510 [x3494].length c3511] (by kernel_rfl) (by kernel_rfl) ?_
  refine (c_i_merged w3513 x3489 p3491 c3492 (h3493.mem0 M3515) [x3494] p3510 c3511 (ho3514.rd M3515 1 (by kernel_rfl)) hr6741).mono ?_
  rintro e_ w6747 ⟨p6743, c6744, sg6745, rfl, ho6746, K6748⟩
  have M6749 := M3515.call K6748
  refine ⟨_, rfl, ?_⟩
  refine W_run 4 [(4, .slice p6743 r6741.1.length c6744), (5, .bool r6741.2)] w6747 (by kernel_rfl) ?_
  refine W_nil ?_
  refine N_then ?_
  refine G_ret ?_
  obtain rfl := Option.some.inj hm
  refine N_ret [.slice p6743 r6741.1.length c6744, .bool r6741.2] (RVs_cons (RV_tmp (by kernel_rfl)) (RVs_cons (RV_tmp (by kernel_rfl)) RVs_nil)) ?_
  exact ⟨p6743, c6744, sg6745, rfl, ho6746, M6749.pick [2] (by kernel_rfl)⟩
end Go.Proofs.Ytfcebglkdfadcaa
