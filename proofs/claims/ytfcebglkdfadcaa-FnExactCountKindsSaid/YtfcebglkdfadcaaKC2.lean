/- The walks, printed by program: whenever the model gives r, the call returns r. Part 2. -/
import Derived.Test.YtfcebglkdfadcaaKM
import Derived.Test.YtfcebglkdfadcaaProg
import Derived.Test.YtfcebglkdfadcaaSh
import Derived.Test.YtfcebglkdfadcaaKC1
set_option linter.unusedVariables false
set_option maxRecDepth 100000
set_option maxHeartbeats 4000000
namespace Go.Proofs.Ytfcebglkdfadcaa
open Go.Gx
theorem c_l_markEventS (w : World) (x3506 : List Event) (p3508 : Option Addr) (c3509 : Nat) (sg3510 : Seg) (ho3511 : ownS encEvent x3506 p3508 c3509 sg3510) (x3512 : Int) (hA : ∀ q ∈ List.flatten [sg3510], w.heap[q.1]? = some q.2) (hN : (idsOf [sg3510]).Nodup) {r : Int × (List Event)} (hm : M.l_markEventS x3506 x3512 = some r) :
    Calls Try.prog 28 #[.slice p3508 x3506.length c3509, .int .i64 x3512] w fun e w' => ∃ (sg3513 : Seg), e = .returned (.int .i64 r.1) ∧ ownS encEvent r.2 p3508 c3509 sg3513 ∧ r.2.length = x3506.length ∧ Mem (idsOf [sg3510]) w w' [sg3513] := by
  unfold M.l_markEventS at hm
  refine C_enter Try.func28 rfl (by kernel_rfl) ?_
  have M0 := Mem.start' w [sg3510] hA hN
  refine G_seq ?_
  refine G_region ?_
  refine W_run 1 [(0, .slice p3508 x3506.length c3509), (1, .int .i64 x3512)] w (by kernel_rfl) ?_
  refine W_nil ?_
  refine N_then ?_
  refine G_seq ?_
  refine G_seq ?_
  refine G_region ?_
  refine W_run 1 [(0, .slice p3508 x3506.length c3509), (1, .int .i64 x3512), (5, .int .i64 0)] w (by kernel_rfl) ?_
  refine W_nil ?_
  refine N_then ?_
  obtain ⟨out3619, hw3620, hmo3621⟩ := gx_bind hm
  refine G_meet (fun a w' => ∃ (sg3626 : Seg), ownS encEvent out3619.2 p3508 c3509 sg3626 ∧ out3619.2.length = x3506.length ∧ Mem (idsOf [sg3510]) w w' [sg3626] ∧ Sat Try.f28.ntmps [(1, .int .i64 out3619.1)] a) ?_ ?_
  · refine G_block ?_
    refine G_while (σ := Int × Int × List Event) (ρ := Int × List Event) (fun s3612 a w' => ∃ (sg3622 : Seg), ownS encEvent s3612.2.2 p3508 c3509 sg3622 ∧ s3612.2.2.length = x3506.length ∧ Mem (idsOf [sg3510]) w w' [sg3622] ∧ Sat Try.f28.ntmps [(0, .slice p3508 s3612.2.2.length c3509), (1, .int .i64 s3612.1), (5, .int .i64 s3612.2.1)] a) hw3620 (fun a ha => ⟨sg3510, ho3511, rfl, M0.pick [0] (by kernel_rfl), ha.sub (by kernel_rfl)⟩) ?_
    clear hm
    intro s3612 x3613 hm hout3614 a3615 w3616 ⟨sg3622, ho3623, hl3624, M3617, hS3618⟩
    refine G_use hS3618 ?_
    refine G_seq ?_
    refine G_seq ?_
    refine G_region ?_
    refine W_run 4 [(0, .slice p3508 s3612.2.2.length c3509), (1, .int .i64 s3612.1), (5, .int .i64 s3612.2.1), (9, .bool (decide (s3612.2.1 < (s3612.2.2.length : Int))))] w3616 (by kernel_rfl) ?_
    refine W_nil ?_
    refine N_then ?_
    rcases gx_bif hm with ⟨hc3629, hm⟩ | ⟨hc3629, hm⟩
    · refine G_cond_t (b := (decide (s3612.2.1 < (s3612.2.2.length : Int)))) hc3629 (by kernel_rfl) ?_
      refine G_skip ?_
      refine N_then ?_
      refine G_seq ?_
      refine G_block ?_
      refine G_seq ?_
      refine G_region ?_
      refine W_run 3 [(0, .slice p3508 s3612.2.2.length c3509), (1, .int .i64 s3612.1), (5, .int .i64 s3612.2.1), (12, .slice p3508 s3612.2.2.length c3509), (13, .int .i64 s3612.2.1), (14, .int .i64 s3612.1)] w3616 (by kernel_rfl) ?_
      obtain ⟨y3630, hy3630, hm⟩ := gx_bind hm
      refine W_val (elemP p3508 (s3612.2.1.toNat * 4)) w3616 (by kernel_rfl) (E_index (E := encEvent) _ _ _ s3612.2.2.length c3509 .i64 s3612.2.1 4 (y := y3630) rfl (by kernel_rfl) (by kernel_rfl) (by kernel_rfl) (ho3623.rd M3617 0 (by kernel_rfl)) rfl hy3630) ?_
      refine W_val (elemP p3508 (s3612.2.1.toNat * 4 + 0)) w3616 (by kernel_rfl) (E_fieldE (E := encEvent) _ _ 0 (s3612.2.1.toNat * 4) 0 rfl (by kernel_rfl) (by kernel_rfl) (ho3623.rd M3617 0 (by kernel_rfl)) hy3630) ?_
      refine W_storeE (E := encEvent) _ _ _ false 1 s3612.2.1.toNat 0 (s3612.2.1.toNat * 4 + 0) y3630 (⟨s3612.1, y3630.Guest, y3630.Kind, y3630.Value⟩ : Event) (.int .i64 s3612.1) 0 M3617 ho3623 (by kernel_rfl) (by kernel_rfl) rfl (by kernel_rfl) (by kernel_rfl) (by kernel_rfl) (by kernel_rfl) (by kernel_rfl) (by kernel_rfl) (by kernel_rfl) (gxIdx_spec hy3630).2 rfl ?_
      intro w3631 sg3633 ho3634 M3632
      refine W_conv 0 (.slice p3508 s3612.2.2.length c3509) (.slice p3508 (s3612.2.2.set s3612.2.1.toNat (⟨s3612.1, y3630.Guest, y3630.Kind, y3630.Value⟩ : Event)).length c3509) (by kernel_rfl) (by rw [@List.length_set _ s3612.2.2 s3612.2.1.toNat (⟨s3612.1, y3630.Guest, y3630.Kind, y3630.Value⟩ : Event)]) ?_
      refine W_conv 12 (.slice p3508 s3612.2.2.length c3509) (.slice p3508 (s3612.2.2.set s3612.2.1.toNat (⟨s3612.1, y3630.Guest, y3630.Kind, y3630.Value⟩ : Event)).length c3509) (by kernel_rfl) (by rw [@List.length_set _ s3612.2.2 s3612.2.1.toNat (⟨s3612.1, y3630.Guest, y3630.Kind, y3630.Value⟩ : Event)]) ?_
      refine W_nil ?_
      refine N_then ?_
      refine G_seq ?_
      refine G_region ?_
      refine W_run 3 [(0, .slice p3508 (s3612.2.2.set s3612.2.1.toNat (⟨s3612.1, y3630.Guest, y3630.Kind, y3630.Value⟩ : Event)).length c3509), (1, .int .i64 (w64 (s3612.1 + 1))), (5, .int .i64 s3612.2.1)] w3631 (by kernel_rfl) ?_
      refine W_nil ?_
      refine N_then ?_
      refine G_seq ?_
      refine G_region ?_
      refine W_run 3 [(0, .slice p3508 (s3612.2.2.set s3612.2.1.toNat (⟨s3612.1, y3630.Guest, y3630.Kind, y3630.Value⟩ : Event)).length c3509), (1, .int .i64 (w64 (s3612.1 + 1))), (5, .int .i64 s3612.2.1), (19, .slice p3508 (s3612.2.2.set s3612.2.1.toNat (⟨s3612.1, y3630.Guest, y3630.Kind, y3630.Value⟩ : Event)).length c3509), (20, .int .i64 s3612.2.1), (21, .int .i64 (w64 (s3612.1 + 1)))] w3631 (by kernel_rfl) ?_
      obtain ⟨y3635, hy3635, hm⟩ := gx_bind hm
      refine W_val (elemP p3508 (s3612.2.1.toNat * 4)) w3631 (by kernel_rfl) (E_index (E := encEvent) _ _ _ (s3612.2.2.set s3612.2.1.toNat (⟨s3612.1, y3630.Guest, y3630.Kind, y3630.Value⟩ : Event)).length c3509 .i64 s3612.2.1 4 (y := y3635) rfl (by kernel_rfl) (by kernel_rfl) (by kernel_rfl) (ho3634.rd M3632 0 (by kernel_rfl)) rfl hy3635) ?_
      refine W_val (elemP p3508 (s3612.2.1.toNat * 4 + 1)) w3631 (by kernel_rfl) (E_fieldE (E := encEvent) _ _ 1 (s3612.2.1.toNat * 4) 1 rfl (by kernel_rfl) (by kernel_rfl) (ho3634.rd M3632 0 (by kernel_rfl)) hy3635) ?_
      refine W_storeE (E := encEvent) _ _ _ false 1 s3612.2.1.toNat 1 (s3612.2.1.toNat * 4 + 1) y3635 (⟨y3635.Tick, w64 (s3612.1 + 1), y3635.Kind, y3635.Value⟩ : Event) (.int .i64 (w64 (s3612.1 + 1))) 0 M3632 ho3634 (by kernel_rfl) (by kernel_rfl) rfl (by kernel_rfl) (by kernel_rfl) (by kernel_rfl) (by kernel_rfl) (by kernel_rfl) (by kernel_rfl) (by kernel_rfl) (gxIdx_spec hy3635).2 rfl ?_
      intro w3636 sg3638 ho3639 M3637
      refine W_conv 0 (.slice p3508 (s3612.2.2.set s3612.2.1.toNat (⟨s3612.1, y3630.Guest, y3630.Kind, y3630.Value⟩ : Event)).length c3509) (.slice p3508 ((s3612.2.2.set s3612.2.1.toNat (⟨s3612.1, y3630.Guest, y3630.Kind, y3630.Value⟩ : Event)).set s3612.2.1.toNat (⟨y3635.Tick, w64 (s3612.1 + 1), y3635.Kind, y3635.Value⟩ : Event)).length c3509) (by kernel_rfl) (by rw [@List.length_set _ (s3612.2.2.set s3612.2.1.toNat (⟨s3612.1, y3630.Guest, y3630.Kind, y3630.Value⟩ : Event)) s3612.2.1.toNat (⟨y3635.Tick, w64 (s3612.1 + 1), y3635.Kind, y3635.Value⟩ : Event)]) ?_
      refine W_conv 19 (.slice p3508 (s3612.2.2.set s3612.2.1.toNat (⟨s3612.1, y3630.Guest, y3630.Kind, y3630.Value⟩ : Event)).length c3509) (.slice p3508 ((s3612.2.2.set s3612.2.1.toNat (⟨s3612.1, y3630.Guest, y3630.Kind, y3630.Value⟩ : Event)).set s3612.2.1.toNat (⟨y3635.Tick, w64 (s3612.1 + 1), y3635.Kind, y3635.Value⟩ : Event)).length c3509) (by kernel_rfl) (by rw [@List.length_set _ (s3612.2.2.set s3612.2.1.toNat (⟨s3612.1, y3630.Guest, y3630.Kind, y3630.Value⟩ : Event)) s3612.2.1.toNat (⟨y3635.Tick, w64 (s3612.1 + 1), y3635.Kind, y3635.Value⟩ : Event)]) ?_
      refine W_nil ?_
      refine N_then ?_
      refine G_seq ?_
      refine G_region ?_
      refine W_run 3 [(0, .slice p3508 ((s3612.2.2.set s3612.2.1.toNat (⟨s3612.1, y3630.Guest, y3630.Kind, y3630.Value⟩ : Event)).set s3612.2.1.toNat (⟨y3635.Tick, w64 (s3612.1 + 1), y3635.Kind, y3635.Value⟩ : Event)).length c3509), (1, .int .i64 (w64 ((w64 (s3612.1 + 1)) + 1))), (5, .int .i64 s3612.2.1)] w3636 (by kernel_rfl) ?_
      refine W_nil ?_
      refine N_then ?_
      refine G_seq ?_
      refine G_region ?_
      refine W_run 3 [(0, .slice p3508 ((s3612.2.2.set s3612.2.1.toNat (⟨s3612.1, y3630.Guest, y3630.Kind, y3630.Value⟩ : Event)).set s3612.2.1.toNat (⟨y3635.Tick, w64 (s3612.1 + 1), y3635.Kind, y3635.Value⟩ : Event)).length c3509), (1, .int .i64 (w64 ((w64 (s3612.1 + 1)) + 1))), (5, .int .i64 s3612.2.1), (26, .slice p3508 ((s3612.2.2.set s3612.2.1.toNat (⟨s3612.1, y3630.Guest, y3630.Kind, y3630.Value⟩ : Event)).set s3612.2.1.toNat (⟨y3635.Tick, w64 (s3612.1 + 1), y3635.Kind, y3635.Value⟩ : Event)).length c3509), (27, .int .i64 s3612.2.1), (28, .int .i64 (w64 ((w64 (s3612.1 + 1)) + 1)))] w3636 (by kernel_rfl) ?_
      obtain ⟨r3640, hr3640, hm⟩ := gx_bind hm
      refine W_call 64 #[.int .i64 (w64 ((w64 (s3612.1 + 1)) + 1))] (by kernel_rfl) (by kernel_rfl) ?_
      refine (c_l_markText w3636 (w64 ((w64 (s3612.1 + 1)) + 1)) hr3640).mono ?_
      rintro e_ w3641 ⟨rfl, K3642⟩
      have M3643 := M3637.call0 K3642
      refine ⟨_, rfl, ?_⟩
      obtain ⟨y3644, hy3644, hm⟩ := gx_bind hm
      refine W_val (elemP p3508 (s3612.2.1.toNat * 4)) w3641 (by kernel_rfl) (E_index (E := encEvent) _ _ _ ((s3612.2.2.set s3612.2.1.toNat (⟨s3612.1, y3630.Guest, y3630.Kind, y3630.Value⟩ : Event)).set s3612.2.1.toNat (⟨y3635.Tick, w64 (s3612.1 + 1), y3635.Kind, y3635.Value⟩ : Event)).length c3509 .i64 s3612.2.1 4 (y := y3644) rfl (by kernel_rfl) (by kernel_rfl) (by kernel_rfl) (ho3639.rd M3643 0 (by kernel_rfl)) rfl hy3644) ?_
      refine W_val (elemP p3508 (s3612.2.1.toNat * 4 + 2)) w3641 (by kernel_rfl) (E_fieldE (E := encEvent) _ _ 2 (s3612.2.1.toNat * 4) 2 rfl (by kernel_rfl) (by kernel_rfl) (ho3639.rd M3643 0 (by kernel_rfl)) hy3644) ?_
      refine W_storeE (E := encEvent) _ _ _ false 1 s3612.2.1.toNat 2 (s3612.2.1.toNat * 4 + 2) y3644 (⟨y3644.Tick, y3644.Guest, r3640, y3644.Value⟩ : Event) (.string r3640) 0 M3643 ho3639 (by kernel_rfl) (by kernel_rfl) rfl (by kernel_rfl) (by kernel_rfl) (by kernel_rfl) (by kernel_rfl) (by kernel_rfl) (by kernel_rfl) (by kernel_rfl) (gxIdx_spec hy3644).2 rfl ?_
      intro w3645 sg3647 ho3648 M3646
      refine W_conv 0 (.slice p3508 ((s3612.2.2.set s3612.2.1.toNat (⟨s3612.1, y3630.Guest, y3630.Kind, y3630.Value⟩ : Event)).set s3612.2.1.toNat (⟨y3635.Tick, w64 (s3612.1 + 1), y3635.Kind, y3635.Value⟩ : Event)).length c3509) (.slice p3508 (((s3612.2.2.set s3612.2.1.toNat (⟨s3612.1, y3630.Guest, y3630.Kind, y3630.Value⟩ : Event)).set s3612.2.1.toNat (⟨y3635.Tick, w64 (s3612.1 + 1), y3635.Kind, y3635.Value⟩ : Event)).set s3612.2.1.toNat (⟨y3644.Tick, y3644.Guest, r3640, y3644.Value⟩ : Event)).length c3509) (by kernel_rfl) (by rw [@List.length_set _ ((s3612.2.2.set s3612.2.1.toNat (⟨s3612.1, y3630.Guest, y3630.Kind, y3630.Value⟩ : Event)).set s3612.2.1.toNat (⟨y3635.Tick, w64 (s3612.1 + 1), y3635.Kind, y3635.Value⟩ : Event)) s3612.2.1.toNat (⟨y3644.Tick, y3644.Guest, r3640, y3644.Value⟩ : Event)]) ?_
      refine W_conv 26 (.slice p3508 ((s3612.2.2.set s3612.2.1.toNat (⟨s3612.1, y3630.Guest, y3630.Kind, y3630.Value⟩ : Event)).set s3612.2.1.toNat (⟨y3635.Tick, w64 (s3612.1 + 1), y3635.Kind, y3635.Value⟩ : Event)).length c3509) (.slice p3508 (((s3612.2.2.set s3612.2.1.toNat (⟨s3612.1, y3630.Guest, y3630.Kind, y3630.Value⟩ : Event)).set s3612.2.1.toNat (⟨y3635.Tick, w64 (s3612.1 + 1), y3635.Kind, y3635.Value⟩ : Event)).set s3612.2.1.toNat (⟨y3644.Tick, y3644.Guest, r3640, y3644.Value⟩ : Event)).length c3509) (by kernel_rfl) (by rw [@List.length_set _ ((s3612.2.2.set s3612.2.1.toNat (⟨s3612.1, y3630.Guest, y3630.Kind, y3630.Value⟩ : Event)).set s3612.2.1.toNat (⟨y3635.Tick, w64 (s3612.1 + 1), y3635.Kind, y3635.Value⟩ : Event)) s3612.2.1.toNat (⟨y3644.Tick, y3644.Guest, r3640, y3644.Value⟩ : Event)]) ?_
      refine W_nil ?_
      refine N_then ?_
      refine G_seq ?_
      refine G_region ?_
      refine W_run 3 [(0, .slice p3508 (((s3612.2.2.set s3612.2.1.toNat (⟨s3612.1, y3630.Guest, y3630.Kind, y3630.Value⟩ : Event)).set s3612.2.1.toNat (⟨y3635.Tick, w64 (s3612.1 + 1), y3635.Kind, y3635.Value⟩ : Event)).set s3612.2.1.toNat (⟨y3644.Tick, y3644.Guest, r3640, y3644.Value⟩ : Event)).length c3509), (1, .int .i64 (w64 ((w64 ((w64 (s3612.1 + 1)) + 1)) + 1))), (5, .int .i64 s3612.2.1)] w3645 (by kernel_rfl) ?_
      refine W_nil ?_
      refine N_then ?_
      refine G_seq ?_
      refine G_region ?_
      refine W_run 3 [(0, .slice p3508 (((s3612.2.2.set s3612.2.1.toNat (⟨s3612.1, y3630.Guest, y3630.Kind, y3630.Value⟩ : Event)).set s3612.2.1.toNat (⟨y3635.Tick, w64 (s3612.1 + 1), y3635.Kind, y3635.Value⟩ : Event)).set s3612.2.1.toNat (⟨y3644.Tick, y3644.Guest, r3640, y3644.Value⟩ : Event)).length c3509), (1, .int .i64 (w64 ((w64 ((w64 (s3612.1 + 1)) + 1)) + 1))), (5, .int .i64 s3612.2.1), (34, .slice p3508 (((s3612.2.2.set s3612.2.1.toNat (⟨s3612.1, y3630.Guest, y3630.Kind, y3630.Value⟩ : Event)).set s3612.2.1.toNat (⟨y3635.Tick, w64 (s3612.1 + 1), y3635.Kind, y3635.Value⟩ : Event)).set s3612.2.1.toNat (⟨y3644.Tick, y3644.Guest, r3640, y3644.Value⟩ : Event)).length c3509), (35, .int .i64 s3612.2.1), (36, .int .i64 (w64 ((w64 ((w64 (s3612.1 + 1)) + 1)) + 1)))] w3645 (by kernel_rfl) ?_
      obtain ⟨y3649, hy3649, hm⟩ := gx_bind hm
      refine W_val (elemP p3508 (s3612.2.1.toNat * 4)) w3645 (by kernel_rfl) (E_index (E := encEvent) _ _ _ (((s3612.2.2.set s3612.2.1.toNat (⟨s3612.1, y3630.Guest, y3630.Kind, y3630.Value⟩ : Event)).set s3612.2.1.toNat (⟨y3635.Tick, w64 (s3612.1 + 1), y3635.Kind, y3635.Value⟩ : Event)).set s3612.2.1.toNat (⟨y3644.Tick, y3644.Guest, r3640, y3644.Value⟩ : Event)).length c3509 .i64 s3612.2.1 4 (y := y3649) rfl (by kernel_rfl) (by kernel_rfl) (by kernel_rfl) (ho3648.rd M3646 0 (by kernel_rfl)) rfl hy3649) ?_
      refine W_val (elemP p3508 (s3612.2.1.toNat * 4 + 3)) w3645 (by kernel_rfl) (E_fieldE (E := encEvent) _ _ 3 (s3612.2.1.toNat * 4) 3 rfl (by kernel_rfl) (by kernel_rfl) (ho3648.rd M3646 0 (by kernel_rfl)) hy3649) ?_
      refine W_storeE (E := encEvent) _ _ _ false 1 s3612.2.1.toNat 3 (s3612.2.1.toNat * 4 + 3) y3649 (⟨y3649.Tick, y3649.Guest, y3649.Kind, w64 ((w64 ((w64 (s3612.1 + 1)) + 1)) + 1)⟩ : Event) (.int .i64 (w64 ((w64 ((w64 (s3612.1 + 1)) + 1)) + 1))) 0 M3646 ho3648 (by kernel_rfl) (by kernel_rfl) rfl (by kernel_rfl) (by kernel_rfl) (by kernel_rfl) (by kernel_rfl) (by kernel_rfl) (by kernel_rfl) (by kernel_rfl) (gxIdx_spec hy3649).2 rfl ?_
      intro w3650 sg3652 ho3653 M3651
      refine W_conv 0 (.slice p3508 (((s3612.2.2.set s3612.2.1.toNat (⟨s3612.1, y3630.Guest, y3630.Kind, y3630.Value⟩ : Event)).set s3612.2.1.toNat (⟨y3635.Tick, w64 (s3612.1 + 1), y3635.Kind, y3635.Value⟩ : Event)).set s3612.2.1.toNat (⟨y3644.Tick, y3644.Guest, r3640, y3644.Value⟩ : Event)).length c3509) (.slice p3508 ((((s3612.2.2.set s3612.2.1.toNat (⟨s3612.1, y3630.Guest, y3630.Kind, y3630.Value⟩ : Event)).set s3612.2.1.toNat (⟨y3635.Tick, w64 (s3612.1 + 1), y3635.Kind, y3635.Value⟩ : Event)).set s3612.2.1.toNat (⟨y3644.Tick, y3644.Guest, r3640, y3644.Value⟩ : Event)).set s3612.2.1.toNat (⟨y3649.Tick, y3649.Guest, y3649.Kind, w64 ((w64 ((w64 (s3612.1 + 1)) + 1)) + 1)⟩ : Event)).length c3509) (by kernel_rfl) (by rw [@List.length_set _ (((s3612.2.2.set s3612.2.1.toNat (⟨s3612.1, y3630.Guest, y3630.Kind, y3630.Value⟩ : Event)).set s3612.2.1.toNat (⟨y3635.Tick, w64 (s3612.1 + 1), y3635.Kind, y3635.Value⟩ : Event)).set s3612.2.1.toNat (⟨y3644.Tick, y3644.Guest, r3640, y3644.Value⟩ : Event)) s3612.2.1.toNat (⟨y3649.Tick, y3649.Guest, y3649.Kind, w64 ((w64 ((w64 (s3612.1 + 1)) + 1)) + 1)⟩ : Event)]) ?_
      refine W_conv 34 (.slice p3508 (((s3612.2.2.set s3612.2.1.toNat (⟨s3612.1, y3630.Guest, y3630.Kind, y3630.Value⟩ : Event)).set s3612.2.1.toNat (⟨y3635.Tick, w64 (s3612.1 + 1), y3635.Kind, y3635.Value⟩ : Event)).set s3612.2.1.toNat (⟨y3644.Tick, y3644.Guest, r3640, y3644.Value⟩ : Event)).length c3509) (.slice p3508 ((((s3612.2.2.set s3612.2.1.toNat (⟨s3612.1, y3630.Guest, y3630.Kind, y3630.Value⟩ : Event)).set s3612.2.1.toNat (⟨y3635.Tick, w64 (s3612.1 + 1), y3635.Kind, y3635.Value⟩ : Event)).set s3612.2.1.toNat (⟨y3644.Tick, y3644.Guest, r3640, y3644.Value⟩ : Event)).set s3612.2.1.toNat (⟨y3649.Tick, y3649.Guest, y3649.Kind, w64 ((w64 ((w64 (s3612.1 + 1)) + 1)) + 1)⟩ : Event)).length c3509) (by kernel_rfl) (by rw [@List.length_set _ (((s3612.2.2.set s3612.2.1.toNat (⟨s3612.1, y3630.Guest, y3630.Kind, y3630.Value⟩ : Event)).set s3612.2.1.toNat (⟨y3635.Tick, w64 (s3612.1 + 1), y3635.Kind, y3635.Value⟩ : Event)).set s3612.2.1.toNat (⟨y3644.Tick, y3644.Guest, r3640, y3644.Value⟩ : Event)) s3612.2.1.toNat (⟨y3649.Tick, y3649.Guest, y3649.Kind, w64 ((w64 ((w64 (s3612.1 + 1)) + 1)) + 1)⟩ : Event)]) ?_
      refine W_nil ?_
      refine N_then ?_
      refine G_region ?_
      refine W_run 3 [(0, .slice p3508 ((((s3612.2.2.set s3612.2.1.toNat (⟨s3612.1, y3630.Guest, y3630.Kind, y3630.Value⟩ : Event)).set s3612.2.1.toNat (⟨y3635.Tick, w64 (s3612.1 + 1), y3635.Kind, y3635.Value⟩ : Event)).set s3612.2.1.toNat (⟨y3644.Tick, y3644.Guest, r3640, y3644.Value⟩ : Event)).set s3612.2.1.toNat (⟨y3649.Tick, y3649.Guest, y3649.Kind, w64 ((w64 ((w64 (s3612.1 + 1)) + 1)) + 1)⟩ : Event)).length c3509), (1, .int .i64 (w64 ((w64 ((w64 ((w64 (s3612.1 + 1)) + 1)) + 1)) + 1))), (5, .int .i64 s3612.2.1)] w3650 (by kernel_rfl) ?_
      refine W_nil ?_
      refine N_block ?_
      refine N_then ?_
      refine G_region ?_
      refine W_run 3 [(0, .slice p3508 ((((s3612.2.2.set s3612.2.1.toNat (⟨s3612.1, y3630.Guest, y3630.Kind, y3630.Value⟩ : Event)).set s3612.2.1.toNat (⟨y3635.Tick, w64 (s3612.1 + 1), y3635.Kind, y3635.Value⟩ : Event)).set s3612.2.1.toNat (⟨y3644.Tick, y3644.Guest, r3640, y3644.Value⟩ : Event)).set s3612.2.1.toNat (⟨y3649.Tick, y3649.Guest, y3649.Kind, w64 ((w64 ((w64 (s3612.1 + 1)) + 1)) + 1)⟩ : Event)).length c3509), (1, .int .i64 (w64 ((w64 ((w64 ((w64 (s3612.1 + 1)) + 1)) + 1)) + 1))), (5, .int .i64 (w64 (s3612.2.1 + 1)))] w3650 (by kernel_rfl) ?_
      refine W_nil ?_
      obtain rfl := Option.some.inj hm
      exact N_loop fun a ha => ⟨_, rfl, sg3652, ho3653, (List.length_set.trans (List.length_set.trans (List.length_set.trans (List.length_set.trans hl3624)))), M3651.pick [0] (by kernel_rfl), ha.sub (by kernel_rfl)⟩
    · refine G_cond_f (b := (decide (s3612.2.1 < (s3612.2.2.length : Int)))) hc3629 (by kernel_rfl) ?_
      refine G_exit ?_
      refine N_then_exit ?_
      refine N_then_exit ?_
      refine N_block_eq ?_
      obtain rfl := Option.some.inj hm
      obtain rfl := hout3614 _ rfl
      exact N_meet fun a ha => ⟨sg3622, ho3623, hl3624, M3617.pick [0] (by kernel_rfl), ha.sub (by kernel_rfl)⟩
  · intro a3654 w3655 ⟨sg3626, ho3627, hl3628, M3656, hS3657⟩
    refine N_use hS3657 ?_
    have hm := hmo3621
    refine N_then ?_
    refine G_seq ?_
    refine G_region ?_
    refine W_run 2 [(4, .int .i64 out3619.1)] w3655 (by kernel_rfl) ?_
    refine W_nil ?_
    refine N_then ?_
    refine G_ret ?_
    obtain rfl := Option.some.inj hm
    refine N_ret [.int .i64 out3619.1] (RVs_cons (RV_tmp (by kernel_rfl)) RVs_nil) ?_
    exact ⟨sg3626, rfl, ho3627, hl3628, M3656.pick [0] (by kernel_rfl)⟩
theorem c_l_markStringS (w : World) (x3695 : List ByteArray) (p3697 : Option Addr) (c3698 : Nat) (sg3699 : Seg) (ho3700 : ownS Gx.encS x3695 p3697 c3698 sg3699) (x3701 : Int) (hA : ∀ q ∈ List.flatten [sg3699], w.heap[q.1]? = some q.2) (hN : (idsOf [sg3699]).Nodup) {r : Int × (List ByteArray)} (hm : M.l_markStringS x3695 x3701 = some r) :
    Calls Try.prog 40 #[.slice p3697 x3695.length c3698, .int .i64 x3701] w fun e w' => ∃ (sg3702 : Seg), e = .returned (.int .i64 r.1) ∧ ownS Gx.encS r.2 p3697 c3698 sg3702 ∧ r.2.length = x3695.length ∧ Mem (idsOf [sg3699]) w w' [sg3702] := by
  unfold M.l_markStringS at hm
  refine C_enter Try.func40 rfl (by kernel_rfl) ?_
  have M0 := Mem.start' w [sg3699] hA hN
  refine G_seq ?_
  refine G_region ?_
  refine W_run 1 [(0, .slice p3697 x3695.length c3698), (1, .int .i64 x3701)] w (by kernel_rfl) ?_
  refine W_nil ?_
  refine N_then ?_
  refine G_seq ?_
  refine G_seq ?_
  refine G_region ?_
  refine W_run 1 [(0, .slice p3697 x3695.length c3698), (1, .int .i64 x3701), (5, .int .i64 0)] w (by kernel_rfl) ?_
  refine W_nil ?_
  refine N_then ?_
  obtain ⟨out3733, hw3734, hmo3735⟩ := gx_bind hm
  refine G_meet (fun a w' => ∃ (sg3740 : Seg), ownS Gx.encS out3733.2 p3697 c3698 sg3740 ∧ out3733.2.length = x3695.length ∧ Mem (idsOf [sg3699]) w w' [sg3740] ∧ Sat Try.f40.ntmps [(1, .int .i64 out3733.1)] a) ?_ ?_
  · refine G_block ?_
    refine G_while (σ := Int × Int × List ByteArray) (ρ := Int × List ByteArray) (fun s3726 a w' => ∃ (sg3736 : Seg), ownS Gx.encS s3726.2.2 p3697 c3698 sg3736 ∧ s3726.2.2.length = x3695.length ∧ Mem (idsOf [sg3699]) w w' [sg3736] ∧ Sat Try.f40.ntmps [(0, .slice p3697 s3726.2.2.length c3698), (1, .int .i64 s3726.1), (5, .int .i64 s3726.2.1)] a) hw3734 (fun a ha => ⟨sg3699, ho3700, rfl, M0.pick [0] (by kernel_rfl), ha.sub (by kernel_rfl)⟩) ?_
    clear hm
    intro s3726 x3727 hm hout3728 a3729 w3730 ⟨sg3736, ho3737, hl3738, M3731, hS3732⟩
    refine G_use hS3732 ?_
    refine G_seq ?_
    refine G_seq ?_
    refine G_region ?_
    refine W_run 4 [(0, .slice p3697 s3726.2.2.length c3698), (1, .int .i64 s3726.1), (5, .int .i64 s3726.2.1), (9, .bool (decide (s3726.2.1 < (s3726.2.2.length : Int))))] w3730 (by kernel_rfl) ?_
    refine W_nil ?_
    refine N_then ?_
    rcases gx_bif hm with ⟨hc3743, hm⟩ | ⟨hc3743, hm⟩
    · refine G_cond_t (b := (decide (s3726.2.1 < (s3726.2.2.length : Int)))) hc3743 (by kernel_rfl) ?_
      refine G_skip ?_
      refine N_then ?_
      refine G_seq ?_
      refine G_block ?_
      refine G_seq ?_
      refine G_region ?_
      refine W_run 3 [(0, .slice p3697 s3726.2.2.length c3698), (1, .int .i64 s3726.1), (5, .int .i64 s3726.2.1), (12, .slice p3697 s3726.2.2.length c3698), (13, .int .i64 s3726.2.1), (14, .int .i64 s3726.1)] w3730 (by kernel_rfl) ?_
      obtain ⟨r3744, hr3744, hm⟩ := gx_bind hm
      refine W_call 64 #[.int .i64 s3726.1] (by kernel_rfl) (by kernel_rfl) ?_
      refine (c_l_markText w3730 s3726.1 hr3744).mono ?_
      rintro e_ w3745 ⟨rfl, K3746⟩
      have M3747 := M3731.call0 K3746
      refine ⟨_, rfl, ?_⟩
      obtain ⟨y3748, hy3748, hm⟩ := gx_bind hm
      refine W_val (elemP p3697 (s3726.2.1.toNat * 1)) w3745 (by kernel_rfl) (E_index (E := Gx.encS) _ _ _ s3726.2.2.length c3698 .i64 s3726.2.1 1 (y := y3748) rfl (by kernel_rfl) (by kernel_rfl) (by kernel_rfl) (ho3737.rd M3747 0 (by kernel_rfl)) rfl hy3748) ?_
      refine W_storeE (E := Gx.encS) _ _ _ false 1 s3726.2.1.toNat 0 (s3726.2.1.toNat * 1) y3748 r3744 (.string r3744) 0 M3747 ho3737 (by kernel_rfl) (by kernel_rfl) rfl (by kernel_rfl) (by kernel_rfl) (by kernel_rfl) (by kernel_rfl) (by kernel_rfl) (by kernel_rfl) (by kernel_rfl) (gxIdx_spec hy3748).2 rfl ?_
      intro w3749 sg3751 ho3752 M3750
      refine W_conv 0 (.slice p3697 s3726.2.2.length c3698) (.slice p3697 (s3726.2.2.set s3726.2.1.toNat r3744).length c3698) (by kernel_rfl) (by rw [@List.length_set _ s3726.2.2 s3726.2.1.toNat r3744]) ?_
      refine W_conv 12 (.slice p3697 s3726.2.2.length c3698) (.slice p3697 (s3726.2.2.set s3726.2.1.toNat r3744).length c3698) (by kernel_rfl) (by rw [@List.length_set _ s3726.2.2 s3726.2.1.toNat r3744]) ?_
      refine W_nil ?_
      refine N_then ?_
      refine G_region ?_
      refine W_run 3 [(0, .slice p3697 (s3726.2.2.set s3726.2.1.toNat r3744).length c3698), (1, .int .i64 (w64 (s3726.1 + 1))), (5, .int .i64 s3726.2.1)] w3749 (by kernel_rfl) ?_
      refine W_nil ?_
      refine N_block ?_
      refine N_then ?_
      refine G_region ?_
      refine W_run 3 [(0, .slice p3697 (s3726.2.2.set s3726.2.1.toNat r3744).length c3698), (1, .int .i64 (w64 (s3726.1 + 1))), (5, .int .i64 (w64 (s3726.2.1 + 1)))] w3749 (by kernel_rfl) ?_
      refine W_nil ?_
      obtain rfl := Option.some.inj hm
      exact N_loop fun a ha => ⟨_, rfl, sg3751, ho3752, (List.length_set.trans hl3738), M3750.pick [0] (by kernel_rfl), ha.sub (by kernel_rfl)⟩
    · refine G_cond_f (b := (decide (s3726.2.1 < (s3726.2.2.length : Int)))) hc3743 (by kernel_rfl) ?_
      refine G_exit ?_
      refine N_then_exit ?_
      refine N_then_exit ?_
      refine N_block_eq ?_
      obtain rfl := Option.some.inj hm
      obtain rfl := hout3728 _ rfl
      exact N_meet fun a ha => ⟨sg3736, ho3737, hl3738, M3731.pick [0] (by kernel_rfl), ha.sub (by kernel_rfl)⟩
  · intro a3753 w3754 ⟨sg3740, ho3741, hl3742, M3755, hS3756⟩
    refine N_use hS3756 ?_
    have hm := hmo3735
    refine N_then ?_
    refine G_seq ?_
    refine G_region ?_
    refine W_run 2 [(4, .int .i64 out3733.1)] w3754 (by kernel_rfl) ?_
    refine W_nil ?_
    refine N_then ?_
    refine G_ret ?_
    obtain rfl := Option.some.inj hm
    refine N_ret [.int .i64 out3733.1] (RVs_cons (RV_tmp (by kernel_rfl)) RVs_nil) ?_
    exact ⟨sg3740, rfl, ho3741, hl3742, M3755.pick [0] (by kernel_rfl)⟩
theorem c_l_markIntS (w : World) (x3764 : List Int) (p3766 : Option Addr) (c3767 : Nat) (sg3768 : Seg) (ho3769 : ownS Gx.encI x3764 p3766 c3767 sg3768) (x3770 : Int) (hA : ∀ q ∈ List.flatten [sg3768], w.heap[q.1]? = some q.2) (hN : (idsOf [sg3768]).Nodup) {r : Int × (List Int)} (hm : M.l_markIntS x3764 x3770 = some r) :
    Calls Try.prog 41 #[.slice p3766 x3764.length c3767, .int .i64 x3770] w fun e w' => ∃ (sg3771 : Seg), e = .returned (.int .i64 r.1) ∧ ownS Gx.encI r.2 p3766 c3767 sg3771 ∧ r.2.length = x3764.length ∧ Mem (idsOf [sg3768]) w w' [sg3771] := by
  unfold M.l_markIntS at hm
  refine C_enter Try.func41 rfl (by kernel_rfl) ?_
  have M0 := Mem.start' w [sg3768] hA hN
  refine G_seq ?_
  refine G_region ?_
  refine W_run 1 [(0, .slice p3766 x3764.length c3767), (1, .int .i64 x3770)] w (by kernel_rfl) ?_
  refine W_nil ?_
  refine N_then ?_
  refine G_seq ?_
  refine G_seq ?_
  refine G_region ?_
  refine W_run 1 [(0, .slice p3766 x3764.length c3767), (1, .int .i64 x3770), (5, .int .i64 0)] w (by kernel_rfl) ?_
  refine W_nil ?_
  refine N_then ?_
  obtain ⟨out3794, hw3795, hmo3796⟩ := gx_bind hm
  refine G_meet (fun a w' => ∃ (sg3801 : Seg), ownS Gx.encI out3794.2 p3766 c3767 sg3801 ∧ out3794.2.length = x3764.length ∧ Mem (idsOf [sg3768]) w w' [sg3801] ∧ Sat Try.f41.ntmps [(1, .int .i64 out3794.1)] a) ?_ ?_
  · refine G_block ?_
    refine G_while (σ := Int × Int × List Int) (ρ := Int × List Int) (fun s3787 a w' => ∃ (sg3797 : Seg), ownS Gx.encI s3787.2.2 p3766 c3767 sg3797 ∧ s3787.2.2.length = x3764.length ∧ Mem (idsOf [sg3768]) w w' [sg3797] ∧ Sat Try.f41.ntmps [(0, .slice p3766 s3787.2.2.length c3767), (1, .int .i64 s3787.1), (5, .int .i64 s3787.2.1)] a) hw3795 (fun a ha => ⟨sg3768, ho3769, rfl, M0.pick [0] (by kernel_rfl), ha.sub (by kernel_rfl)⟩) ?_
    clear hm
    intro s3787 x3788 hm hout3789 a3790 w3791 ⟨sg3797, ho3798, hl3799, M3792, hS3793⟩
    refine G_use hS3793 ?_
    refine G_seq ?_
    refine G_seq ?_
    refine G_region ?_
    refine W_run 4 [(0, .slice p3766 s3787.2.2.length c3767), (1, .int .i64 s3787.1), (5, .int .i64 s3787.2.1), (9, .bool (decide (s3787.2.1 < (s3787.2.2.length : Int))))] w3791 (by kernel_rfl) ?_
    refine W_nil ?_
    refine N_then ?_
    rcases gx_bif hm with ⟨hc3804, hm⟩ | ⟨hc3804, hm⟩
    · refine G_cond_t (b := (decide (s3787.2.1 < (s3787.2.2.length : Int)))) hc3804 (by kernel_rfl) ?_
      refine G_skip ?_
      refine N_then ?_
      refine G_seq ?_
      refine G_block ?_
      refine G_seq ?_
      refine G_region ?_
      refine W_run 3 [(0, .slice p3766 s3787.2.2.length c3767), (1, .int .i64 s3787.1), (5, .int .i64 s3787.2.1), (12, .slice p3766 s3787.2.2.length c3767), (13, .int .i64 s3787.2.1), (14, .int .i64 s3787.1)] w3791 (by kernel_rfl) ?_
      obtain ⟨y3805, hy3805, hm⟩ := gx_bind hm
      refine W_val (elemP p3766 (s3787.2.1.toNat * 1)) w3791 (by kernel_rfl) (E_index (E := Gx.encI) _ _ _ s3787.2.2.length c3767 .i64 s3787.2.1 1 (y := y3805) rfl (by kernel_rfl) (by kernel_rfl) (by kernel_rfl) (ho3798.rd M3792 0 (by kernel_rfl)) rfl hy3805) ?_
      refine W_storeE (E := Gx.encI) _ _ _ false 1 s3787.2.1.toNat 0 (s3787.2.1.toNat * 1) y3805 s3787.1 (.int .i64 s3787.1) 0 M3792 ho3798 (by kernel_rfl) (by kernel_rfl) rfl (by kernel_rfl) (by kernel_rfl) (by kernel_rfl) (by kernel_rfl) (by kernel_rfl) (by kernel_rfl) (by kernel_rfl) (gxIdx_spec hy3805).2 rfl ?_
      intro w3806 sg3808 ho3809 M3807
      refine W_conv 0 (.slice p3766 s3787.2.2.length c3767) (.slice p3766 (s3787.2.2.set s3787.2.1.toNat s3787.1).length c3767) (by kernel_rfl) (by rw [@List.length_set _ s3787.2.2 s3787.2.1.toNat s3787.1]) ?_
      refine W_conv 12 (.slice p3766 s3787.2.2.length c3767) (.slice p3766 (s3787.2.2.set s3787.2.1.toNat s3787.1).length c3767) (by kernel_rfl) (by rw [@List.length_set _ s3787.2.2 s3787.2.1.toNat s3787.1]) ?_
      refine W_nil ?_
      refine N_then ?_
      refine G_region ?_
      refine W_run 3 [(0, .slice p3766 (s3787.2.2.set s3787.2.1.toNat s3787.1).length c3767), (1, .int .i64 (w64 (s3787.1 + 1))), (5, .int .i64 s3787.2.1)] w3806 (by kernel_rfl) ?_
      refine W_nil ?_
      refine N_block ?_
      refine N_then ?_
      refine G_region ?_
      refine W_run 3 [(0, .slice p3766 (s3787.2.2.set s3787.2.1.toNat s3787.1).length c3767), (1, .int .i64 (w64 (s3787.1 + 1))), (5, .int .i64 (w64 (s3787.2.1 + 1)))] w3806 (by kernel_rfl) ?_
      refine W_nil ?_
      obtain rfl := Option.some.inj hm
      exact N_loop fun a ha => ⟨_, rfl, sg3808, ho3809, (List.length_set.trans hl3799), M3807.pick [0] (by kernel_rfl), ha.sub (by kernel_rfl)⟩
    · refine G_cond_f (b := (decide (s3787.2.1 < (s3787.2.2.length : Int)))) hc3804 (by kernel_rfl) ?_
      refine G_exit ?_
      refine N_then_exit ?_
      refine N_then_exit ?_
      refine N_block_eq ?_
      obtain rfl := Option.some.inj hm
      obtain rfl := hout3789 _ rfl
      exact N_meet fun a ha => ⟨sg3797, ho3798, hl3799, M3792.pick [0] (by kernel_rfl), ha.sub (by kernel_rfl)⟩
  · intro a3810 w3811 ⟨sg3801, ho3802, hl3803, M3812, hS3813⟩
    refine N_use hS3813 ?_
    have hm := hmo3796
    refine N_then ?_
    refine G_seq ?_
    refine G_region ?_
    refine W_run 2 [(4, .int .i64 out3794.1)] w3811 (by kernel_rfl) ?_
    refine W_nil ?_
    refine N_then ?_
    refine G_ret ?_
    obtain rfl := Option.some.inj hm
    refine N_ret [.int .i64 out3794.1] (RVs_cons (RV_tmp (by kernel_rfl)) RVs_nil) ?_
    exact ⟨sg3801, rfl, ho3802, hl3803, M3812.pick [0] (by kernel_rfl)⟩
theorem c_l_heldStringS (w : World) (x3821 : List ByteArray) (p3823 : Option Addr) (c3824 : Nat) (h3825 : rdS Gx.encS w x3821 p3823 c3824) (x3826 : Int) {r : Int} (hm : M.l_heldStringS x3821 x3826 = some r) :
    Calls Try.prog 42 #[.slice p3823 x3821.length c3824, .int .i64 x3826] w fun e w' => e = .returned (.int .i64 r) ∧ Mem [] w w' [] := by
  unfold M.l_heldStringS at hm
  refine C_enter Try.func42 rfl (by kernel_rfl) ?_
  have M0 := Mem.refl [] w
  refine G_seq ?_
  refine G_region ?_
  refine W_run 1 [(0, .slice p3823 x3821.length c3824), (1, .int .i64 x3826)] w (by kernel_rfl) ?_
  refine W_nil ?_
  refine N_then ?_
  refine G_seq ?_
  refine G_seq ?_
  refine G_region ?_
  refine W_run 1 [(0, .slice p3823 x3821.length c3824), (1, .int .i64 x3826), (5, .int .i64 0)] w (by kernel_rfl) ?_
  refine W_nil ?_
  refine N_then ?_
  obtain ⟨out3852, hw3853, hmo3854⟩ := gx_bind hm
  refine G_meet (fun a w' => ∃ (o3855 : Int), out3852 = .inl o3855 ∧ Mem [] w w' [] ∧ Sat Try.f42.ntmps [(1, .int .i64 o3855)] a) ?_ ?_
  · refine G_block ?_
    refine G_while (σ := Int × Int) (ρ := (Int) ⊕ (Int)) (fun s3845 a w' => Mem [] w w' [] ∧ Sat Try.f42.ntmps [(0, .slice p3823 x3821.length c3824), (1, .int .i64 s3845.1), (5, .int .i64 s3845.2)] a) hw3853 (fun a ha => ⟨M0.pick [] (by kernel_rfl), ha.sub (by kernel_rfl)⟩) ?_
    clear hm
    intro s3845 x3846 hm hout3847 a3848 w3849 ⟨M3850, hS3851⟩
    refine G_use hS3851 ?_
    refine G_seq ?_
    refine G_seq ?_
    refine G_region ?_
    refine W_run 4 [(0, .slice p3823 x3821.length c3824), (1, .int .i64 s3845.1), (5, .int .i64 s3845.2), (9, .bool (decide (s3845.2 < (x3821.length : Int))))] w3849 (by kernel_rfl) ?_
    refine W_nil ?_
    refine N_then ?_
    rcases gx_bif hm with ⟨hc3856, hm⟩ | ⟨hc3856, hm⟩
    · refine G_cond_t (b := (decide (s3845.2 < (x3821.length : Int)))) hc3856 (by kernel_rfl) ?_
      refine G_skip ?_
      refine N_then ?_
      refine G_seq ?_
      refine G_block ?_
      refine G_seq ?_
      refine G_seq ?_
      refine G_quiet (by kernel_rfl) (by kernel_rfl) M3850 ?_
      refine Z_runs [.slice p3823 x3821.length c3824, .int .i64 s3845.2] [(0, .slice p3823 x3821.length c3824), (1, .int .i64 s3845.1), (5, .int .i64 s3845.2), (12, .slice p3823 x3821.length c3824), (13, .int .i64 s3845.2)] (fun w_ => by kernel_rfl) (by kernel_rfl) ?_
      obtain ⟨y3857, hy3857, hm⟩ := gx_bind hm
      refine Z_val (elemP p3823 (s3845.2.toNat * 1)) (by kernel_rfl) (fun w_ M_ => (E_index (E := Gx.encS) _ _ _ x3821.length c3824 .i64 s3845.2 1 (y := y3857) rfl (by kernel_rfl) (by kernel_rfl) (by kernel_rfl) (h3825.mem0 M_) rfl hy3857)) ?_
      refine Z_val (.string y3857) (by kernel_rfl) (fun w_ M_ => (E_loadE (E := Gx.encS) _ _ false 1 s3845.2 0 (s3845.2.toNat * 1) y3857 (.string y3857) rfl (by kernel_rfl) (by kernel_rfl) (by kernel_rfl) (h3825.mem0 M_) hy3857 rfl)) ?_
      refine Z_runs [.int .i64 s3845.1] [(0, .slice p3823 x3821.length c3824), (1, .int .i64 s3845.1), (5, .int .i64 s3845.2), (15, .string y3857), (16, .int .i64 s3845.1)] (fun w_ => by kernel_rfl) (by kernel_rfl) ?_
      obtain ⟨r3858, hr3858, hm⟩ := gx_bind hm
      refine Z_call 64 #[.int .i64 s3845.1] (.string r3858) (by kernel_rfl) (fun w_ => by kernel_rfl) (fun w_ M_ => (c_l_markText w_ s3845.1 hr3858).mono fun e w2_ h_ => ⟨h_.1, M_.call0 h_.2⟩) ?_
      refine Z_runs [.bool (!(y3857.toList == r3858.toList))] [(0, .slice p3823 x3821.length c3824), (1, .int .i64 s3845.1), (5, .int .i64 s3845.2), (18, .bool (!(y3857.toList == r3858.toList)))] (fun w_ => by kernel_rfl) (by kernel_rfl) ?_
      refine Z_end fun w3862 M3863 => ?_
      refine N_then ?_
      rcases gx_bif hm with ⟨hc3864, hm⟩ | ⟨hc3864, hm⟩
      · refine G_cond_t (b := (!(y3857.toList == r3858.toList))) hc3864 (by kernel_rfl) ?_
        refine G_seq ?_
        refine G_region ?_
        refine W_run 1 [(4, .int .i64 (-1))] w3862 (by kernel_rfl) ?_
        refine W_nil ?_
        refine N_then ?_
        refine G_ret ?_
        refine N_then_ret ?_
        refine N_block_ret ?_
        refine N_then_ret ?_
        refine N_then_ret ?_
        obtain rfl := Option.some.inj hm
        obtain rfl := hout3847 _ rfl
        have hm := hmo3854; simp only [Sum.elim_inr] at hm
        refine N_block_ret ?_
        refine N_meet_ret ?_
        refine N_then_ret ?_
        obtain rfl := Option.some.inj hm
        refine N_ret [.int .i64 (-1)] (RVs_cons (RV_tmp (by kernel_rfl)) RVs_nil) ?_
        exact ⟨rfl, M3863.pick [] (by kernel_rfl)⟩
      · refine G_cond_f (b := (!(y3857.toList == r3858.toList))) hc3864 (by kernel_rfl) ?_
        refine G_skip ?_
        refine N_then ?_
        refine G_region ?_
        refine W_run 3 [(0, .slice p3823 x3821.length c3824), (1, .int .i64 (w64 (s3845.1 + 1))), (5, .int .i64 s3845.2)] w3862 (by kernel_rfl) ?_
        refine W_nil ?_
        refine N_block ?_
        refine N_then ?_
        refine G_region ?_
        refine W_run 3 [(0, .slice p3823 x3821.length c3824), (1, .int .i64 (w64 (s3845.1 + 1))), (5, .int .i64 (w64 (s3845.2 + 1)))] w3862 (by kernel_rfl) ?_
        refine W_nil ?_
        obtain rfl := Option.some.inj hm
        exact N_loop fun a ha => ⟨_, rfl, M3863.pick [] (by kernel_rfl), ha.sub (by kernel_rfl)⟩
    · refine G_cond_f (b := (decide (s3845.2 < (x3821.length : Int)))) hc3856 (by kernel_rfl) ?_
      refine G_exit ?_
      refine N_then_exit ?_
      refine N_then_exit ?_
      refine N_block_eq ?_
      obtain rfl := Option.some.inj hm
      obtain rfl := hout3847 _ rfl
      exact N_meet fun a ha => ⟨_, rfl, M3850.pick [] (by kernel_rfl), ha.sub (by kernel_rfl)⟩
  · intro a3865 w3866 ⟨o3855, hout_, M3867, hS3868⟩
    refine N_use hS3868 ?_
    subst hout_
    have hm := hmo3854; simp only [Sum.elim_inl] at hm
    refine N_then ?_
    refine G_seq ?_
    refine G_region ?_
    refine W_run 2 [(4, .int .i64 o3855)] w3866 (by kernel_rfl) ?_
    refine W_nil ?_
    refine N_then ?_
    refine G_ret ?_
    obtain rfl := Option.some.inj hm
    refine N_ret [.int .i64 o3855] (RVs_cons (RV_tmp (by kernel_rfl)) RVs_nil) ?_
    exact ⟨rfl, M3867.pick [] (by kernel_rfl)⟩
theorem c_l_heldIntS (w : World) (x3874 : List Int) (p3876 : Option Addr) (c3877 : Nat) (h3878 : rdS Gx.encI w x3874 p3876 c3877) (x3879 : Int) {r : Int} (hm : M.l_heldIntS x3874 x3879 = some r) :
    Calls Try.prog 43 #[.slice p3876 x3874.length c3877, .int .i64 x3879] w fun e w' => e = .returned (.int .i64 r) ∧ Mem [] w w' [] := by
  unfold M.l_heldIntS at hm
  refine C_enter Try.func43 rfl (by kernel_rfl) ?_
  have M0 := Mem.refl [] w
  refine G_seq ?_
  refine G_region ?_
  refine W_run 1 [(0, .slice p3876 x3874.length c3877), (1, .int .i64 x3879)] w (by kernel_rfl) ?_
  refine W_nil ?_
  refine N_then ?_
  refine G_seq ?_
  refine G_seq ?_
  refine G_region ?_
  refine W_run 1 [(0, .slice p3876 x3874.length c3877), (1, .int .i64 x3879), (5, .int .i64 0)] w (by kernel_rfl) ?_
  refine W_nil ?_
  refine N_then ?_
  obtain ⟨out3893, hw3894, hmo3895⟩ := gx_bind hm
  refine G_meet (fun a w' => ∃ (o3896 : Int), out3893 = .inl o3896 ∧ Mem [] w w' [] ∧ Sat Try.f43.ntmps [(1, .int .i64 o3896)] a) ?_ ?_
  · refine G_block ?_
    refine G_while (σ := Int × Int) (ρ := (Int) ⊕ (Int)) (fun s3886 a w' => Mem [] w w' [] ∧ Sat Try.f43.ntmps [(0, .slice p3876 x3874.length c3877), (1, .int .i64 s3886.1), (5, .int .i64 s3886.2)] a) hw3894 (fun a ha => ⟨M0.pick [] (by kernel_rfl), ha.sub (by kernel_rfl)⟩) ?_
    clear hm
    intro s3886 x3887 hm hout3888 a3889 w3890 ⟨M3891, hS3892⟩
    refine G_use hS3892 ?_
    refine G_seq ?_
    refine G_seq ?_
    refine G_region ?_
    refine W_run 4 [(0, .slice p3876 x3874.length c3877), (1, .int .i64 s3886.1), (5, .int .i64 s3886.2), (9, .bool (decide (s3886.2 < (x3874.length : Int))))] w3890 (by kernel_rfl) ?_
    refine W_nil ?_
    refine N_then ?_
    rcases gx_bif hm with ⟨hc3897, hm⟩ | ⟨hc3897, hm⟩
    · refine G_cond_t (b := (decide (s3886.2 < (x3874.length : Int)))) hc3897 (by kernel_rfl) ?_
      refine G_skip ?_
      refine N_then ?_
      refine G_seq ?_
      refine G_block ?_
      refine G_seq ?_
      refine G_seq ?_
      refine G_region ?_
      refine W_run 2 [(0, .slice p3876 x3874.length c3877), (1, .int .i64 s3886.1), (5, .int .i64 s3886.2), (12, .slice p3876 x3874.length c3877), (13, .int .i64 s3886.2)] w3890 (by kernel_rfl) ?_
      obtain ⟨y3898, hy3898, hm⟩ := gx_bind hm
      refine W_val (elemP p3876 (s3886.2.toNat * 1)) w3890 (by kernel_rfl) (E_index (E := Gx.encI) _ _ _ x3874.length c3877 .i64 s3886.2 1 (y := y3898) rfl (by kernel_rfl) (by kernel_rfl) (by kernel_rfl) (h3878.mem0 M3891) rfl hy3898) ?_
      refine W_val (.int .i64 y3898) w3890 (by kernel_rfl) (E_loadE (E := Gx.encI) _ _ false 1 s3886.2 0 (s3886.2.toNat * 1) y3898 (.int .i64 y3898) rfl (by kernel_rfl) (by kernel_rfl) (by kernel_rfl) (h3878.mem0 M3891) hy3898 rfl) ?_
      refine W_run 2 [(0, .slice p3876 x3874.length c3877), (1, .int .i64 s3886.1), (5, .int .i64 s3886.2), (17, .bool (y3898 != s3886.1))] w3890 (by kernel_rfl) ?_
      refine W_nil ?_
      refine N_then ?_
      rcases gx_bif hm with ⟨hc3899, hm⟩ | ⟨hc3899, hm⟩
      · refine G_cond_t (b := (y3898 != s3886.1)) hc3899 (by kernel_rfl) ?_
        refine G_seq ?_
        refine G_region ?_
        refine W_run 1 [(4, .int .i64 (-1))] w3890 (by kernel_rfl) ?_
        refine W_nil ?_
        refine N_then ?_
        refine G_ret ?_
        refine N_then_ret ?_
        refine N_block_ret ?_
        refine N_then_ret ?_
        refine N_then_ret ?_
        obtain rfl := Option.some.inj hm
        obtain rfl := hout3888 _ rfl
        have hm := hmo3895; simp only [Sum.elim_inr] at hm
        refine N_block_ret ?_
        refine N_meet_ret ?_
        refine N_then_ret ?_
        obtain rfl := Option.some.inj hm
        refine N_ret [.int .i64 (-1)] (RVs_cons (RV_tmp (by kernel_rfl)) RVs_nil) ?_
        exact ⟨rfl, M3891.pick [] (by kernel_rfl)⟩
      · refine G_cond_f (b := (y3898 != s3886.1)) hc3899 (by kernel_rfl) ?_
        refine G_skip ?_
        refine N_then ?_
        refine G_region ?_
        refine W_run 3 [(0, .slice p3876 x3874.length c3877), (1, .int .i64 (w64 (s3886.1 + 1))), (5, .int .i64 s3886.2)] w3890 (by kernel_rfl) ?_
        refine W_nil ?_
        refine N_block ?_
        refine N_then ?_
        refine G_region ?_
        refine W_run 3 [(0, .slice p3876 x3874.length c3877), (1, .int .i64 (w64 (s3886.1 + 1))), (5, .int .i64 (w64 (s3886.2 + 1)))] w3890 (by kernel_rfl) ?_
        refine W_nil ?_
        obtain rfl := Option.some.inj hm
        exact N_loop fun a ha => ⟨_, rfl, M3891.pick [] (by kernel_rfl), ha.sub (by kernel_rfl)⟩
    · refine G_cond_f (b := (decide (s3886.2 < (x3874.length : Int)))) hc3897 (by kernel_rfl) ?_
      refine G_exit ?_
      refine N_then_exit ?_
      refine N_then_exit ?_
      refine N_block_eq ?_
      obtain rfl := Option.some.inj hm
      obtain rfl := hout3888 _ rfl
      exact N_meet fun a ha => ⟨_, rfl, M3891.pick [] (by kernel_rfl), ha.sub (by kernel_rfl)⟩
  · intro a3900 w3901 ⟨o3896, hout_, M3902, hS3903⟩
    refine N_use hS3903 ?_
    subst hout_
    have hm := hmo3895; simp only [Sum.elim_inl] at hm
    refine N_then ?_
    refine G_seq ?_
    refine G_region ?_
    refine W_run 2 [(4, .int .i64 o3896)] w3901 (by kernel_rfl) ?_
    refine W_nil ?_
    refine N_then ?_
    refine G_ret ?_
    obtain rfl := Option.some.inj hm
    refine N_ret [.int .i64 o3896] (RVs_cons (RV_tmp (by kernel_rfl)) RVs_nil) ?_
    exact ⟨rfl, M3902.pick [] (by kernel_rfl)⟩
theorem c_l_FnExactCountKinds (w : World) (x1 : List Event) (p3 : Option Addr) (c4 : Nat) (h5 : rdS encEvent w x1 p3 c4) {r : Bool} (hm : M.l_FnExactCountKinds x1 = some r) :
    Calls Try.prog 11 #[.slice p3 x1.length c4] w fun e w' => e = .returned (.bool r) ∧ Mem [] w w' [] := by
  unfold M.l_FnExactCountKinds at hm
  refine C_enter Try.func11 rfl (by kernel_rfl) ?_
  have M0 := Mem.refl [] w
  refine G_seq ?_
  refine G_region ?_
  refine W_run 1 [(0, .slice p3 x1.length c4)] w (by kernel_rfl) ?_
  refine W_nil ?_
  refine N_then ?_
  refine G_seq ?_
  refine G_region ?_
  refine W_run 1 [(0, .slice p3 x1.length c4), (3, .int .i64 1048576)] w (by kernel_rfl) ?_
  refine W_nil ?_
  refine N_then ?_
  refine G_seq ?_
  refine G_region ?_
  refine W_run 2 [(0, .slice p3 x1.length c4), (3, .int .i64 1048576), (17, .slice p3 x1.length c4), (18, .int .i64 1048576)] w (by kernel_rfl) ?_
  obtain ⟨r56, hr56, hm⟩ := gx_bind hm
  refine W_call 17 #[.slice p3 x1.length c4, .int .i64 1048576] (by kernel_rfl) (by kernel_rfl) ?_
  refine (c_l_szEventS w x1 p3 c4 (h5.mem0 M0) 1048576 hr56).mono ?_
  rintro e_ w57 ⟨rfl, K58⟩
  have M59 := M0.call0 K58
  refine ⟨_, rfl, ?_⟩
  refine W_run 1 [(0, .slice p3 x1.length c4), (3, .int .i64 r56)] w57 (by kernel_rfl) ?_
  refine W_nil ?_
  refine N_then ?_
  refine G_seq ?_
  refine G_seq ?_
  refine G_region ?_
  refine W_run 2 [(0, .slice p3 x1.length c4), (21, .bool (decide (r56 < 0)))] w57 (by kernel_rfl) ?_
  refine W_nil ?_
  refine N_then ?_
  rcases gx_bif hm with ⟨hc60, hm⟩ | ⟨hc60, hm⟩
  · refine G_cond_t (b := (decide (r56 < 0))) hc60 (by kernel_rfl) ?_
    refine G_seq ?_
    refine G_region ?_
    refine W_run 1 [(2, .bool true)] w57 (by kernel_rfl) ?_
    refine W_nil ?_
    refine N_then ?_
    refine G_ret ?_
    refine N_then_ret ?_
    obtain rfl := Option.some.inj hm
    refine N_ret [.bool true] (RVs_cons (RV_tmp (by kernel_rfl)) RVs_nil) ?_
    exact ⟨rfl, M59.pick [] (by kernel_rfl)⟩
  · refine G_cond_f (b := (decide (r56 < 0))) hc60 (by kernel_rfl) ?_
    refine G_skip ?_
    refine N_then ?_
    refine G_seq ?_
    refine G_region ?_
    refine W_run 1 [(0, .slice p3 x1.length c4), (23, .slice p3 x1.length c4)] w57 (by kernel_rfl) ?_
    obtain ⟨r156, hr156, hm⟩ := gx_bind hm
    refine W_call 19 #[.slice p3 x1.length c4] (by kernel_rfl) (by kernel_rfl) ?_
    refine (c_l_toEventS w57 x1 p3 c4 (h5.mem0 M59) hr156).mono ?_
    rintro e_ w162 ⟨p158, c159, sg160, rfl, ho161, K163⟩
    have M164 := M59.call K163
    refine ⟨_, rfl, ?_⟩
    obtain ⟨r2312, hr2312, hm⟩ := gx_bind hm
    refine W_call 36 #[.slice p158 r156.length c159] (by kernel_rfl) (by kernel_rfl) ?_
    refine (c_s_CountKinds w162 r156 p158 c159 (ho161.rd M164 0 (by kernel_rfl)) hr2312).mono ?_
    rintro e_ w2323 ⟨p2314, c2315, sg2316, p2319, c2320, sg2321, rfl, ho2317, ho2322, K2324⟩
    have M2325 := M164.call K2324
    refine ⟨_, rfl, ?_⟩
    refine W_run 7 [(0, .slice p3 x1.length c4), (4, .slice p2314 r2312.1.length c2315), (5, .slice p2319 r2312.2.1.length c2320), (6, .bool r2312.2.2)] w2323 (by kernel_rfl) ?_
    refine W_nil ?_
    refine N_then ?_
    refine G_seq ?_
    refine G_region ?_
    refine W_run 1 [(0, .slice p3 x1.length c4), (4, .slice p2314 r2312.1.length c2315), (5, .slice p2319 r2312.2.1.length c2320), (6, .bool r2312.2.2), (29, .slice p3 x1.length c4)] w2323 (by kernel_rfl) ?_
    obtain ⟨r2326, hr2326, hm⟩ := gx_bind hm
    refine W_call 19 #[.slice p3 x1.length c4] (by kernel_rfl) (by kernel_rfl) ?_
    refine (c_l_toEventS w2323 x1 p3 c4 (h5.mem0 M2325) hr2326).mono ?_
    rintro e_ w2332 ⟨p2328, c2329, sg2330, rfl, ho2331, K2333⟩
    have M2334 := M2325.call K2333
    refine ⟨_, rfl, ?_⟩
    refine W_run 1 [(0, .slice p3 x1.length c4), (4, .slice p2314 r2312.1.length c2315), (5, .slice p2319 r2312.2.1.length c2320), (6, .bool r2312.2.2), (7, .slice p2328 r2326.length c2329)] w2332 (by kernel_rfl) ?_
    refine W_nil ?_
    refine N_then ?_
    refine G_seq ?_
    refine G_region ?_
    refine W_run 1 [(0, .slice p3 x1.length c4), (4, .slice p2314 r2312.1.length c2315), (5, .slice p2319 r2312.2.1.length c2320), (6, .bool r2312.2.2), (7, .slice p2328 r2326.length c2329), (32, .slice p2328 r2326.length c2329)] w2332 (by kernel_rfl) ?_
    obtain ⟨r3292, hr3292, hm⟩ := gx_bind hm
    refine W_call 37 #[.slice p2328 r2326.length c2329] (by kernel_rfl) (by kernel_rfl) ?_
    refine (c_i_CountKinds w2332 r2326 p2328 c2329 (ho2331.rd M2334 3 (by kernel_rfl)) hr3292).mono ?_
    rintro e_ w3303 ⟨p3294, c3295, sg3296, p3299, c3300, sg3301, rfl, ho3297, ho3302, K3304⟩
    have M3305 := M2334.call K3304
    refine ⟨_, rfl, ?_⟩
    refine W_run 7 [(0, .slice p3 x1.length c4), (4, .slice p2314 r2312.1.length c2315), (5, .slice p2319 r2312.2.1.length c2320), (6, .bool r2312.2.2), (7, .slice p2328 r2326.length c2329), (8, .slice p3294 r3292.1.length c3295), (9, .slice p3299 r3292.2.1.length c3300), (10, .bool r3292.2.2)] w3303 (by kernel_rfl) ?_
    refine W_nil ?_
    refine N_then ?_
    refine G_seq ?_
    refine G_seq ?_
    obtain ⟨o3404, ho3405, hm3406⟩ := gx_bind hm
    refine G_meet (fun a w' => Mem [] w w' [sg2316, sg2321, sg2330, sg3296, sg3301] ∧ Sat Try.f11.ntmps [(0, .slice p3 x1.length c4), (4, .slice p2314 r2312.1.length c2315), (5, .slice p2319 r2312.2.1.length c2320), (6, .bool r2312.2.2), (7, .slice p2328 r2326.length c2329), (8, .slice p3294 r3292.1.length c3295), (9, .slice p3299 r3292.2.1.length c3300), (10, .bool r3292.2.2), (51, .bool o3404)] a) ?_ ?_
    · have hm := ho3405
      refine G_region ?_
      refine W_run 2 [(0, .slice p3 x1.length c4), (4, .slice p2314 r2312.1.length c2315), (5, .slice p2319 r2312.2.1.length c2320), (6, .bool r2312.2.2), (7, .slice p2328 r2326.length c2329), (8, .slice p3294 r3292.1.length c3295), (9, .slice p3299 r3292.2.1.length c3300), (10, .bool r3292.2.2), (37, .slice p3294 r3292.1.length c3295), (38, .slice p2314 r2312.1.length c2315)] w3303 (by kernel_rfl) ?_
      obtain ⟨r3407, hr3407, hm⟩ := gx_bind hm
      refine W_call 38 #[.slice p3294 r3292.1.length c3295, .slice p2314 r2312.1.length c2315] (by kernel_rfl) (by kernel_rfl) ?_
      refine (c_l_eqStringS w3303 r3292.1 p3294 c3295 (ho3297.rd M3305 4 (by kernel_rfl)) r2312.1 p2314 c2315 (ho2317.rd M3305 1 (by kernel_rfl)) hr3407).mono ?_
      rintro e_ w3408 ⟨rfl, K3409⟩
      have M3410 := M3305.call0 K3409
      refine ⟨_, rfl, ?_⟩
      refine W_run 2 [(0, .slice p3 x1.length c4), (4, .slice p2314 r2312.1.length c2315), (5, .slice p2319 r2312.2.1.length c2320), (6, .bool r2312.2.2), (7, .slice p2328 r2326.length c2329), (8, .slice p3294 r3292.1.length c3295), (9, .slice p3299 r3292.2.1.length c3300), (10, .bool r3292.2.2), (41, .bool (!r3407))] w3408 (by kernel_rfl) ?_
      rcases gx_bif hm with ⟨hc3411, hm⟩ | ⟨hc3411, hm⟩
      · refine W_known 41 true (by kernel_rfl) hc3411 ?_
        refine W_run 10 [(0, .slice p3 x1.length c4), (4, .slice p2314 r2312.1.length c2315), (5, .slice p2319 r2312.2.1.length c2320), (6, .bool r2312.2.2), (7, .slice p2328 r2326.length c2329), (8, .slice p3294 r3292.1.length c3295), (9, .slice p3299 r3292.2.1.length c3300), (10, .bool r3292.2.2), (51, .bool true)] w3408 (by kernel_rfl) ?_
        refine W_nil ?_
        obtain rfl := Option.some.inj hm
        exact N_meet fun a ha => ⟨M3410.pick [1, 2, 3, 4, 5] (by kernel_rfl), ha.sub (by kernel_rfl)⟩
      · refine W_known 41 false (by kernel_rfl) hc3411 ?_
        refine W_run 2 [(0, .slice p3 x1.length c4), (4, .slice p2314 r2312.1.length c2315), (5, .slice p2319 r2312.2.1.length c2320), (6, .bool r2312.2.2), (7, .slice p2328 r2326.length c2329), (8, .slice p3294 r3292.1.length c3295), (9, .slice p3299 r3292.2.1.length c3300), (10, .bool r3292.2.2), (41, .bool false), (42, .slice p3299 r3292.2.1.length c3300), (43, .slice p2319 r2312.2.1.length c2320)] w3408 (by kernel_rfl) ?_
        obtain ⟨r3412, hr3412, hm⟩ := gx_bind hm
        refine W_call 39 #[.slice p3299 r3292.2.1.length c3300, .slice p2319 r2312.2.1.length c2320] (by kernel_rfl) (by kernel_rfl) ?_
        refine (c_l_eqIntS w3408 r3292.2.1 p3299 c3300 (ho3302.rd M3410 5 (by kernel_rfl)) r2312.2.1 p2319 c2320 (ho2322.rd M3410 2 (by kernel_rfl)) hr3412).mono ?_
        rintro e_ w3413 ⟨rfl, K3414⟩
        have M3415 := M3410.call0 K3414
        refine ⟨_, rfl, ?_⟩
        refine W_run 3 [(0, .slice p3 x1.length c4), (4, .slice p2314 r2312.1.length c2315), (5, .slice p2319 r2312.2.1.length c2320), (6, .bool r2312.2.2), (7, .slice p2328 r2326.length c2329), (8, .slice p3294 r3292.1.length c3295), (9, .slice p3299 r3292.2.1.length c3300), (10, .bool r3292.2.2), (47, .bool (!r3412))] w3413 (by kernel_rfl) ?_
        rcases gx_bif hm with ⟨hc3416, hm⟩ | ⟨hc3416, hm⟩
        · refine W_known 47 true (by kernel_rfl) hc3416 ?_
          refine W_run 4 [(0, .slice p3 x1.length c4), (4, .slice p2314 r2312.1.length c2315), (5, .slice p2319 r2312.2.1.length c2320), (6, .bool r2312.2.2), (7, .slice p2328 r2326.length c2329), (8, .slice p3294 r3292.1.length c3295), (9, .slice p3299 r3292.2.1.length c3300), (10, .bool r3292.2.2), (51, .bool true)] w3413 (by kernel_rfl) ?_
          refine W_nil ?_
          obtain rfl := Option.some.inj hm
          exact N_meet fun a ha => ⟨M3415.pick [1, 2, 3, 4, 5] (by kernel_rfl), ha.sub (by kernel_rfl)⟩
        · refine W_known 47 false (by kernel_rfl) hc3416 ?_
          refine W_run 4 [(0, .slice p3 x1.length c4), (4, .slice p2314 r2312.1.length c2315), (5, .slice p2319 r2312.2.1.length c2320), (6, .bool r2312.2.2), (7, .slice p2328 r2326.length c2329), (8, .slice p3294 r3292.1.length c3295), (9, .slice p3299 r3292.2.1.length c3300), (10, .bool r3292.2.2), (51, .bool (!(r3292.2.2 == r2312.2.2)))] w3413 (by kernel_rfl) ?_
          refine W_nil ?_
          obtain rfl := Option.some.inj hm
          exact N_meet fun a ha => ⟨M3415.pick [1, 2, 3, 4, 5] (by kernel_rfl), ha.sub (by kernel_rfl)⟩
    · intro a3419 w3417 ⟨M3418, hS3420⟩
      refine N_use hS3420 ?_
      have hm := hm3406
      refine N_then ?_
      rcases gx_bif hm with ⟨hc3421, hm⟩ | ⟨hc3421, hm⟩
      · refine G_cond_t (b := o3404) hc3421 (by kernel_rfl) ?_
        refine G_seq ?_
        refine G_region ?_
        refine W_run 1 [(2, .bool false)] w3417 (by kernel_rfl) ?_
        refine W_nil ?_
        refine N_then ?_
        refine G_ret ?_
        refine N_then_ret ?_
        obtain rfl := Option.some.inj hm
        refine N_ret [.bool false] (RVs_cons (RV_tmp (by kernel_rfl)) RVs_nil) ?_
        exact ⟨rfl, M3418.pick [] (by kernel_rfl)⟩
      · refine G_cond_f (b := o3404) hc3421 (by kernel_rfl) ?_
        refine G_skip ?_
        refine N_then ?_
        refine G_seq ?_
        refine G_seq ?_
        refine G_region ?_
        refine W_run 2 [(0, .slice p3 x1.length c4), (4, .slice p2314 r2312.1.length c2315), (5, .slice p2319 r2312.2.1.length c2320), (6, .bool r2312.2.2), (7, .slice p2328 r2326.length c2329), (8, .slice p3294 r3292.1.length c3295), (9, .slice p3299 r3292.2.1.length c3300), (10, .bool r3292.2.2), (52, .slice p2328 r2326.length c2329), (53, .slice p3 x1.length c4)] w3417 (by kernel_rfl) ?_
        obtain ⟨r3422, hr3422, hm⟩ := gx_bind hm
        refine W_call 19 #[.slice p3 x1.length c4] (by kernel_rfl) (by kernel_rfl) ?_
        refine (c_l_toEventS w3417 x1 p3 c4 (h5.mem0 M3418) hr3422).mono ?_
        rintro e_ w3428 ⟨p3424, c3425, sg3426, rfl, ho3427, K3429⟩
        have M3430 := M3418.call K3429
        refine ⟨_, rfl, ?_⟩
        obtain ⟨r3501, hr3501, hm⟩ := gx_bind hm
        refine W_call 21 #[.slice p2328 r2326.length c2329, .slice p3424 r3422.length c3425] (by kernel_rfl) (by kernel_rfl) ?_
        refine (c_l_eqEventS w3428 r2326 p2328 c2329 (ho2331.rd M3430 2 (by kernel_rfl)) r3422 p3424 c3425 (ho3427.rd M3430 5 (by kernel_rfl)) hr3501).mono ?_
        rintro e_ w3502 ⟨rfl, K3503⟩
        have M3504 := M3430.call0 K3503
        refine ⟨_, rfl, ?_⟩
        refine W_run 1 [(0, .slice p3 x1.length c4), (4, .slice p2314 r2312.1.length c2315), (5, .slice p2319 r2312.2.1.length c2320), (6, .bool r2312.2.2), (7, .slice p2328 r2326.length c2329), (8, .slice p3294 r3292.1.length c3295), (9, .slice p3299 r3292.2.1.length c3300), (10, .bool r3292.2.2), (56, .bool (!r3501))] w3502 (by kernel_rfl) ?_
        refine W_nil ?_
        refine N_then ?_
        rcases gx_bif hm with ⟨hc3505, hm⟩ | ⟨hc3505, hm⟩
        · refine G_cond_t (b := (!r3501)) hc3505 (by kernel_rfl) ?_
          refine G_seq ?_
          refine G_region ?_
          refine W_run 1 [(2, .bool false)] w3502 (by kernel_rfl) ?_
          refine W_nil ?_
          refine N_then ?_
          refine G_ret ?_
          refine N_then_ret ?_
          obtain rfl := Option.some.inj hm
          refine N_ret [.bool false] (RVs_cons (RV_tmp (by kernel_rfl)) RVs_nil) ?_
          exact ⟨rfl, M3504.pick [] (by kernel_rfl)⟩
        · refine G_cond_f (b := (!r3501)) hc3505 (by kernel_rfl) ?_
          refine G_skip ?_
          refine N_then ?_
          refine G_seq ?_
          refine G_region ?_
          refine W_run 1 [(0, .slice p3 x1.length c4), (4, .slice p2314 r2312.1.length c2315), (5, .slice p2319 r2312.2.1.length c2320), (6, .bool r2312.2.2), (7, .slice p2328 r2326.length c2329), (8, .slice p3294 r3292.1.length c3295), (9, .slice p3299 r3292.2.1.length c3300), (10, .bool r3292.2.2), (11, .int .i64 1)] w3502 (by kernel_rfl) ?_
          refine W_nil ?_
          refine N_then ?_
          refine G_seq ?_
          refine G_region ?_
          refine W_run 2 [(0, .slice p3 x1.length c4), (4, .slice p2314 r2312.1.length c2315), (5, .slice p2319 r2312.2.1.length c2320), (6, .bool r2312.2.2), (8, .slice p3294 r3292.1.length c3295), (9, .slice p3299 r3292.2.1.length c3300), (10, .bool r3292.2.2), (11, .int .i64 1), (57, .slice p2328 r2326.length c2329), (58, .int .i64 1)] w3502 (by kernel_rfl) ?_
          obtain ⟨r3658, hr3658, hm⟩ := gx_bind hm
          refine W_call 28 #[.slice p2328 r2326.length c2329, .int .i64 1] (by kernel_rfl) (by kernel_rfl) ?_
          refine (c_l_markEventS w3502 r2326 p2328 c2329 sg2330 ho2331 1 (M3504.hasPick [2]) (M3504.nodupPick [2] (by kernel_rfl)) hr3658).mono ?_
          rintro e_ w3662 ⟨sg3659, rfl, ho3660, hl3661, K3663⟩
          have M3664 := M3504.callF' [2] [0, 1, 3, 4, 5] (by kernel_rfl) K3663
          refine ⟨_, rfl, ?_⟩
          refine W_conv 57 (.slice p2328 r2326.length c2329) (.slice p2328 r3658.2.length c2329) (by kernel_rfl) (by first | rw [hl3661] | rw [hl3661]) ?_
          refine W_run 1 [(0, .slice p3 x1.length c4), (4, .slice p2314 r2312.1.length c2315), (5, .slice p2319 r2312.2.1.length c2320), (6, .bool r2312.2.2), (8, .slice p3294 r3292.1.length c3295), (9, .slice p3299 r3292.2.1.length c3300), (10, .bool r3292.2.2), (11, .int .i64 r3658.1)] w3662 (by kernel_rfl) ?_
          refine W_nil ?_
          refine N_then ?_
          refine G_seq ?_
          refine G_seq ?_
          obtain ⟨o3676, ho3677, hm3678⟩ := gx_bind hm
          refine G_meet (fun a w' => Mem [] w w' [sg2316, sg2321, sg3296, sg3301] ∧ Sat Try.f11.ntmps [(0, .slice p3 x1.length c4), (4, .slice p2314 r2312.1.length c2315), (5, .slice p2319 r2312.2.1.length c2320), (6, .bool r2312.2.2), (8, .slice p3294 r3292.1.length c3295), (9, .slice p3299 r3292.2.1.length c3300), (78, .bool o3676)] a) ?_ ?_
          · have hm := ho3677
            refine G_region ?_
            refine W_run 3 [(0, .slice p3 x1.length c4), (4, .slice p2314 r2312.1.length c2315), (5, .slice p2319 r2312.2.1.length c2320), (6, .bool r2312.2.2), (8, .slice p3294 r3292.1.length c3295), (9, .slice p3299 r3292.2.1.length c3300), (10, .bool r3292.2.2), (62, .bool (decide (r3658.1 < 0)))] w3662 (by kernel_rfl) ?_
            rcases gx_bif hm with ⟨hc3679, hm⟩ | ⟨hc3679, hm⟩
            · refine W_known 62 true (by kernel_rfl) hc3679 ?_
              refine W_run 16 [(0, .slice p3 x1.length c4), (4, .slice p2314 r2312.1.length c2315), (5, .slice p2319 r2312.2.1.length c2320), (6, .bool r2312.2.2), (8, .slice p3294 r3292.1.length c3295), (9, .slice p3299 r3292.2.1.length c3300), (78, .bool true)] w3662 (by kernel_rfl) ?_
              refine W_nil ?_
              obtain rfl := Option.some.inj hm
              exact N_meet fun a ha => ⟨M3664.pick [0, 1, 2, 3] (by kernel_rfl), ha.sub (by kernel_rfl)⟩
            · refine W_known 62 false (by kernel_rfl) hc3679 ?_
              refine W_run 2 [(0, .slice p3 x1.length c4), (4, .slice p2314 r2312.1.length c2315), (5, .slice p2319 r2312.2.1.length c2320), (6, .bool r2312.2.2), (8, .slice p3294 r3292.1.length c3295), (9, .slice p3299 r3292.2.1.length c3300), (10, .bool r3292.2.2), (62, .bool false), (63, .slice p3294 r3292.1.length c3295), (64, .slice p2314 r2312.1.length c2315)] w3662 (by kernel_rfl) ?_
              obtain ⟨r3680, hr3680, hm⟩ := gx_bind hm
              refine W_call 38 #[.slice p3294 r3292.1.length c3295, .slice p2314 r2312.1.length c2315] (by kernel_rfl) (by kernel_rfl) ?_
              refine (c_l_eqStringS w3662 r3292.1 p3294 c3295 (ho3297.rd M3664 2 (by kernel_rfl)) r2312.1 p2314 c2315 (ho2317.rd M3664 0 (by kernel_rfl)) hr3680).mono ?_
              rintro e_ w3681 ⟨rfl, K3682⟩
              have M3683 := M3664.call0 K3682
              refine ⟨_, rfl, ?_⟩
              refine W_run 3 [(0, .slice p3 x1.length c4), (4, .slice p2314 r2312.1.length c2315), (5, .slice p2319 r2312.2.1.length c2320), (6, .bool r2312.2.2), (8, .slice p3294 r3292.1.length c3295), (9, .slice p3299 r3292.2.1.length c3300), (10, .bool r3292.2.2), (68, .bool (!r3680))] w3681 (by kernel_rfl) ?_
              rcases gx_bif hm with ⟨hc3684, hm⟩ | ⟨hc3684, hm⟩
              · refine W_known 68 true (by kernel_rfl) hc3684 ?_
                refine W_run 10 [(0, .slice p3 x1.length c4), (4, .slice p2314 r2312.1.length c2315), (5, .slice p2319 r2312.2.1.length c2320), (6, .bool r2312.2.2), (8, .slice p3294 r3292.1.length c3295), (9, .slice p3299 r3292.2.1.length c3300), (78, .bool true)] w3681 (by kernel_rfl) ?_
                refine W_nil ?_
                obtain rfl := Option.some.inj hm
                exact N_meet fun a ha => ⟨M3683.pick [0, 1, 2, 3] (by kernel_rfl), ha.sub (by kernel_rfl)⟩
              · refine W_known 68 false (by kernel_rfl) hc3684 ?_
                refine W_run 2 [(0, .slice p3 x1.length c4), (4, .slice p2314 r2312.1.length c2315), (5, .slice p2319 r2312.2.1.length c2320), (6, .bool r2312.2.2), (8, .slice p3294 r3292.1.length c3295), (9, .slice p3299 r3292.2.1.length c3300), (10, .bool r3292.2.2), (68, .bool false), (69, .slice p3299 r3292.2.1.length c3300), (70, .slice p2319 r2312.2.1.length c2320)] w3681 (by kernel_rfl) ?_
                obtain ⟨r3685, hr3685, hm⟩ := gx_bind hm
                refine W_call 39 #[.slice p3299 r3292.2.1.length c3300, .slice p2319 r2312.2.1.length c2320] (by kernel_rfl) (by kernel_rfl) ?_
                refine (c_l_eqIntS w3681 r3292.2.1 p3299 c3300 (ho3302.rd M3683 3 (by kernel_rfl)) r2312.2.1 p2319 c2320 (ho2322.rd M3683 1 (by kernel_rfl)) hr3685).mono ?_
                rintro e_ w3686 ⟨rfl, K3687⟩
                have M3688 := M3683.call0 K3687
                refine ⟨_, rfl, ?_⟩
                refine W_run 3 [(0, .slice p3 x1.length c4), (4, .slice p2314 r2312.1.length c2315), (5, .slice p2319 r2312.2.1.length c2320), (6, .bool r2312.2.2), (8, .slice p3294 r3292.1.length c3295), (9, .slice p3299 r3292.2.1.length c3300), (10, .bool r3292.2.2), (74, .bool (!r3685))] w3686 (by kernel_rfl) ?_
                rcases gx_bif hm with ⟨hc3689, hm⟩ | ⟨hc3689, hm⟩
                · refine W_known 74 true (by kernel_rfl) hc3689 ?_
                  refine W_run 4 [(0, .slice p3 x1.length c4), (4, .slice p2314 r2312.1.length c2315), (5, .slice p2319 r2312.2.1.length c2320), (6, .bool r2312.2.2), (8, .slice p3294 r3292.1.length c3295), (9, .slice p3299 r3292.2.1.length c3300), (78, .bool true)] w3686 (by kernel_rfl) ?_
                  refine W_nil ?_
                  obtain rfl := Option.some.inj hm
                  exact N_meet fun a ha => ⟨M3688.pick [0, 1, 2, 3] (by kernel_rfl), ha.sub (by kernel_rfl)⟩
                · refine W_known 74 false (by kernel_rfl) hc3689 ?_
                  refine W_run 4 [(0, .slice p3 x1.length c4), (4, .slice p2314 r2312.1.length c2315), (5, .slice p2319 r2312.2.1.length c2320), (6, .bool r2312.2.2), (8, .slice p3294 r3292.1.length c3295), (9, .slice p3299 r3292.2.1.length c3300), (78, .bool (!(r3292.2.2 == r2312.2.2)))] w3686 (by kernel_rfl) ?_
                  refine W_nil ?_
                  obtain rfl := Option.some.inj hm
                  exact N_meet fun a ha => ⟨M3688.pick [0, 1, 2, 3] (by kernel_rfl), ha.sub (by kernel_rfl)⟩
          · intro a3692 w3690 ⟨M3691, hS3693⟩
            refine N_use hS3693 ?_
            have hm := hm3678
            refine N_then ?_
            rcases gx_bif hm with ⟨hc3694, hm⟩ | ⟨hc3694, hm⟩
            · refine G_cond_t (b := o3676) hc3694 (by kernel_rfl) ?_
              refine G_seq ?_
              refine G_region ?_
              refine W_run 1 [(2, .bool false)] w3690 (by kernel_rfl) ?_
              refine W_nil ?_
              refine N_then ?_
              refine G_ret ?_
              refine N_then_ret ?_
              obtain rfl := Option.some.inj hm
              refine N_ret [.bool false] (RVs_cons (RV_tmp (by kernel_rfl)) RVs_nil) ?_
              exact ⟨rfl, M3691.pick [] (by kernel_rfl)⟩
            · refine G_cond_f (b := o3676) hc3694 (by kernel_rfl) ?_
              refine G_skip ?_
              refine N_then ?_
              refine G_seq ?_
              refine G_region ?_
              refine W_run 1 [(0, .slice p3 x1.length c4), (4, .slice p2314 r2312.1.length c2315), (5, .slice p2319 r2312.2.1.length c2320), (6, .bool r2312.2.2), (8, .slice p3294 r3292.1.length c3295), (9, .slice p3299 r3292.2.1.length c3300), (12, .int .i64 1)] w3690 (by kernel_rfl) ?_
              refine W_nil ?_
              refine N_then ?_
              refine G_seq ?_
              refine G_region ?_
              refine W_run 2 [(0, .slice p3 x1.length c4), (4, .slice p2314 r2312.1.length c2315), (5, .slice p2319 r2312.2.1.length c2320), (6, .bool r2312.2.2), (8, .slice p3294 r3292.1.length c3295), (9, .slice p3299 r3292.2.1.length c3300), (12, .int .i64 1), (79, .slice p3294 r3292.1.length c3295), (80, .int .i64 1)] w3690 (by kernel_rfl) ?_
              obtain ⟨r3757, hr3757, hm⟩ := gx_bind hm
              refine W_call 40 #[.slice p3294 r3292.1.length c3295, .int .i64 1] (by kernel_rfl) (by kernel_rfl) ?_
              refine (c_l_markStringS w3690 r3292.1 p3294 c3295 sg3296 ho3297 1 (M3691.hasPick [2]) (M3691.nodupPick [2] (by kernel_rfl)) hr3757).mono ?_
              rintro e_ w3761 ⟨sg3758, rfl, ho3759, hl3760, K3762⟩
              have M3763 := M3691.callF' [2] [0, 1, 3] (by kernel_rfl) K3762
              refine ⟨_, rfl, ?_⟩
              refine W_conv 8 (.slice p3294 r3292.1.length c3295) (.slice p3294 r3757.2.length c3295) (by kernel_rfl) (by first | rw [hl3760] | rw [hl3760]) ?_
              refine W_conv 79 (.slice p3294 r3292.1.length c3295) (.slice p3294 r3757.2.length c3295) (by kernel_rfl) (by first | rw [hl3760] | rw [hl3760]) ?_
              refine W_run 1 [(0, .slice p3 x1.length c4), (4, .slice p2314 r2312.1.length c2315), (5, .slice p2319 r2312.2.1.length c2320), (6, .bool r2312.2.2), (8, .slice p3294 r3757.2.length c3295), (9, .slice p3299 r3292.2.1.length c3300), (12, .int .i64 r3757.1)] w3761 (by kernel_rfl) ?_
              refine W_nil ?_
              refine N_then ?_
              refine G_seq ?_
              refine G_region ?_
              refine W_run 2 [(0, .slice p3 x1.length c4), (4, .slice p2314 r2312.1.length c2315), (5, .slice p2319 r2312.2.1.length c2320), (6, .bool r2312.2.2), (8, .slice p3294 r3757.2.length c3295), (9, .slice p3299 r3292.2.1.length c3300), (12, .int .i64 r3757.1), (82, .slice p3299 r3292.2.1.length c3300), (83, .int .i64 r3757.1)] w3761 (by kernel_rfl) ?_
              obtain ⟨r3814, hr3814, hm⟩ := gx_bind hm
              refine W_call 41 #[.slice p3299 r3292.2.1.length c3300, .int .i64 r3757.1] (by kernel_rfl) (by kernel_rfl) ?_
              refine (c_l_markIntS w3761 r3292.2.1 p3299 c3300 sg3301 ho3302 r3757.1 (M3763.hasPick [2]) (M3763.nodupPick [2] (by kernel_rfl)) hr3814).mono ?_
              rintro e_ w3818 ⟨sg3815, rfl, ho3816, hl3817, K3819⟩
              have M3820 := M3763.callF' [2] [0, 1, 3] (by kernel_rfl) K3819
              refine ⟨_, rfl, ?_⟩
              refine W_conv 9 (.slice p3299 r3292.2.1.length c3300) (.slice p3299 r3814.2.length c3300) (by kernel_rfl) (by first | rw [hl3817] | rw [hl3817]) ?_
              refine W_conv 82 (.slice p3299 r3292.2.1.length c3300) (.slice p3299 r3814.2.length c3300) (by kernel_rfl) (by first | rw [hl3817] | rw [hl3817]) ?_
              refine W_run 1 [(0, .slice p3 x1.length c4), (4, .slice p2314 r2312.1.length c2315), (5, .slice p2319 r2312.2.1.length c2320), (6, .bool r2312.2.2), (8, .slice p3294 r3757.2.length c3295), (9, .slice p3299 r3814.2.length c3300), (12, .int .i64 r3814.1)] w3818 (by kernel_rfl) ?_
              refine W_nil ?_
              refine N_then ?_
              refine G_seq ?_
              refine G_region ?_
              refine W_run 1 [(0, .slice p3 x1.length c4), (4, .slice p2314 r2312.1.length c2315), (5, .slice p2319 r2312.2.1.length c2320), (6, .bool r2312.2.2), (8, .slice p3294 r3757.2.length c3295), (9, .slice p3299 r3814.2.length c3300), (12, .int .i64 r3814.1), (13, .int .i64 1)] w3818 (by kernel_rfl) ?_
              refine W_nil ?_
              refine N_then ?_
              refine G_seq ?_
              refine G_region ?_
              refine W_run 2 [(0, .slice p3 x1.length c4), (4, .slice p2314 r2312.1.length c2315), (5, .slice p2319 r2312.2.1.length c2320), (6, .bool r2312.2.2), (8, .slice p3294 r3757.2.length c3295), (9, .slice p3299 r3814.2.length c3300), (12, .int .i64 r3814.1), (13, .int .i64 1), (85, .slice p3294 r3757.2.length c3295), (86, .int .i64 1)] w3818 (by kernel_rfl) ?_
              obtain ⟨r3869, hr3869, hm⟩ := gx_bind hm
              refine W_call 42 #[.slice p3294 r3757.2.length c3295, .int .i64 1] (by kernel_rfl) (by kernel_rfl) ?_
              refine (c_l_heldStringS w3818 r3757.2 p3294 c3295 (ho3759.rd M3820 2 (by kernel_rfl)) 1 hr3869).mono ?_
              rintro e_ w3870 ⟨rfl, K3871⟩
              have M3872 := M3820.call0 K3871
              refine ⟨_, rfl, ?_⟩
              refine W_run 1 [(0, .slice p3 x1.length c4), (4, .slice p2314 r2312.1.length c2315), (5, .slice p2319 r2312.2.1.length c2320), (6, .bool r2312.2.2), (8, .slice p3294 r3757.2.length c3295), (9, .slice p3299 r3814.2.length c3300), (12, .int .i64 r3814.1), (13, .int .i64 r3869)] w3870 (by kernel_rfl) ?_
              refine W_nil ?_
              refine N_then ?_
              refine G_seq ?_
              refine G_seq ?_
              refine G_region ?_
              refine W_run 2 [(0, .slice p3 x1.length c4), (4, .slice p2314 r2312.1.length c2315), (5, .slice p2319 r2312.2.1.length c2320), (6, .bool r2312.2.2), (8, .slice p3294 r3757.2.length c3295), (9, .slice p3299 r3814.2.length c3300), (12, .int .i64 r3814.1), (13, .int .i64 r3869), (89, .bool (decide (r3869 < 0)))] w3870 (by kernel_rfl) ?_
              refine W_nil ?_
              refine N_then ?_
              rcases gx_bif hm with ⟨hc3873, hm⟩ | ⟨hc3873, hm⟩
              · refine G_cond_t (b := (decide (r3869 < 0))) hc3873 (by kernel_rfl) ?_
                refine G_seq ?_
                refine G_region ?_
                refine W_run 1 [(2, .bool false)] w3870 (by kernel_rfl) ?_
                refine W_nil ?_
                refine N_then ?_
                refine G_ret ?_
                refine N_then_ret ?_
                obtain rfl := Option.some.inj hm
                refine N_ret [.bool false] (RVs_cons (RV_tmp (by kernel_rfl)) RVs_nil) ?_
                exact ⟨rfl, M3872.pick [] (by kernel_rfl)⟩
              · refine G_cond_f (b := (decide (r3869 < 0))) hc3873 (by kernel_rfl) ?_
                refine G_skip ?_
                refine N_then ?_
                refine G_seq ?_
                refine G_region ?_
                refine W_run 2 [(0, .slice p3 x1.length c4), (4, .slice p2314 r2312.1.length c2315), (5, .slice p2319 r2312.2.1.length c2320), (6, .bool r2312.2.2), (8, .slice p3294 r3757.2.length c3295), (9, .slice p3299 r3814.2.length c3300), (12, .int .i64 r3814.1), (13, .int .i64 r3869), (90, .slice p3299 r3814.2.length c3300), (91, .int .i64 r3869)] w3870 (by kernel_rfl) ?_
                obtain ⟨r3904, hr3904, hm⟩ := gx_bind hm
                refine W_call 43 #[.slice p3299 r3814.2.length c3300, .int .i64 r3869] (by kernel_rfl) (by kernel_rfl) ?_
                refine (c_l_heldIntS w3870 r3814.2 p3299 c3300 (ho3816.rd M3872 3 (by kernel_rfl)) r3869 hr3904).mono ?_
                rintro e_ w3905 ⟨rfl, K3906⟩
                have M3907 := M3872.call0 K3906
                refine ⟨_, rfl, ?_⟩
                refine W_run 1 [(0, .slice p3 x1.length c4), (4, .slice p2314 r2312.1.length c2315), (5, .slice p2319 r2312.2.1.length c2320), (6, .bool r2312.2.2), (8, .slice p3294 r3757.2.length c3295), (9, .slice p3299 r3814.2.length c3300), (12, .int .i64 r3814.1), (13, .int .i64 r3904)] w3905 (by kernel_rfl) ?_
                refine W_nil ?_
                refine N_then ?_
                refine G_seq ?_
                refine G_seq ?_
                refine G_region ?_
                refine W_run 2 [(0, .slice p3 x1.length c4), (4, .slice p2314 r2312.1.length c2315), (5, .slice p2319 r2312.2.1.length c2320), (6, .bool r2312.2.2), (8, .slice p3294 r3757.2.length c3295), (9, .slice p3299 r3814.2.length c3300), (12, .int .i64 r3814.1), (13, .int .i64 r3904), (94, .bool (decide (r3904 < 0)))] w3905 (by kernel_rfl) ?_
                refine W_nil ?_
                refine N_then ?_
                rcases gx_bif hm with ⟨hc3908, hm⟩ | ⟨hc3908, hm⟩
                · refine G_cond_t (b := (decide (r3904 < 0))) hc3908 (by kernel_rfl) ?_
                  refine G_seq ?_
                  refine G_region ?_
                  refine W_run 1 [(2, .bool false)] w3905 (by kernel_rfl) ?_
                  refine W_nil ?_
                  refine N_then ?_
                  refine G_ret ?_
                  refine N_then_ret ?_
                  obtain rfl := Option.some.inj hm
                  refine N_ret [.bool false] (RVs_cons (RV_tmp (by kernel_rfl)) RVs_nil) ?_
                  exact ⟨rfl, M3907.pick [] (by kernel_rfl)⟩
                · refine G_cond_f (b := (decide (r3904 < 0))) hc3908 (by kernel_rfl) ?_
                  refine G_skip ?_
                  refine N_then ?_
                  refine G_seq ?_
                  refine G_seq ?_
                  refine G_region ?_
                  refine W_run 3 [(0, .slice p3 x1.length c4), (4, .slice p2314 r2312.1.length c2315), (5, .slice p2319 r2312.2.1.length c2320), (6, .bool r2312.2.2), (8, .slice p3294 r3757.2.length c3295), (9, .slice p3299 r3814.2.length c3300), (12, .int .i64 r3814.1), (97, .bool (r3904 != r3814.1))] w3905 (by kernel_rfl) ?_
                  refine W_nil ?_
                  refine N_then ?_
                  rcases gx_bif hm with ⟨hc3909, hm⟩ | ⟨hc3909, hm⟩
                  · refine G_cond_t (b := (r3904 != r3814.1)) hc3909 (by kernel_rfl) ?_
                    refine G_seq ?_
                    refine G_region ?_
                    refine W_run 1 [(2, .bool false)] w3905 (by kernel_rfl) ?_
                    refine W_nil ?_
                    refine N_then ?_
                    refine G_ret ?_
                    refine N_then_ret ?_
                    obtain rfl := Option.some.inj hm
                    refine N_ret [.bool false] (RVs_cons (RV_tmp (by kernel_rfl)) RVs_nil) ?_
                    exact ⟨rfl, M3907.pick [] (by kernel_rfl)⟩
                  · refine G_cond_f (b := (r3904 != r3814.1)) hc3909 (by kernel_rfl) ?_
                    refine G_skip ?_
                    refine N_then ?_
                    refine G_seq ?_
                    refine G_region ?_
                    refine W_run 1 [(4, .slice p2314 r2312.1.length c2315), (5, .slice p2319 r2312.2.1.length c2320), (6, .bool r2312.2.2), (8, .slice p3294 r3757.2.length c3295), (9, .slice p3299 r3814.2.length c3300), (12, .int .i64 r3814.1), (99, .slice p3 x1.length c4)] w3905 (by kernel_rfl) ?_
                    obtain ⟨r3910, hr3910, hm⟩ := gx_bind hm
                    refine W_call 19 #[.slice p3 x1.length c4] (by kernel_rfl) (by kernel_rfl) ?_
                    refine (c_l_toEventS w3905 x1 p3 c4 (h5.mem0 M3907) hr3910).mono ?_
                    rintro e_ w3916 ⟨p3912, c3913, sg3914, rfl, ho3915, K3917⟩
                    have M3918 := M3907.call K3917
                    refine ⟨_, rfl, ?_⟩
                    obtain ⟨r3919, hr3919, hm⟩ := gx_bind hm
                    refine W_call 37 #[.slice p3912 r3910.length c3913] (by kernel_rfl) (by kernel_rfl) ?_
                    refine (c_i_CountKinds w3916 r3910 p3912 c3913 (ho3915.rd M3918 4 (by kernel_rfl)) hr3919).mono ?_
                    rintro e_ w3930 ⟨p3921, c3922, sg3923, p3926, c3927, sg3928, rfl, ho3924, ho3929, K3931⟩
                    have M3932 := M3918.call K3931
                    refine ⟨_, rfl, ?_⟩
                    refine W_run 7 [(4, .slice p2314 r2312.1.length c2315), (5, .slice p2319 r2312.2.1.length c2320), (6, .bool r2312.2.2), (8, .slice p3294 r3757.2.length c3295), (9, .slice p3299 r3814.2.length c3300), (12, .int .i64 r3814.1), (14, .slice p3921 r3919.1.length c3922), (15, .slice p3926 r3919.2.1.length c3927), (16, .bool r3919.2.2)] w3930 (by kernel_rfl) ?_
                    refine W_nil ?_
                    refine N_then ?_
                    refine G_seq ?_
                    refine G_seq ?_
                    obtain ⟨o3943, ho3944, hm3945⟩ := gx_bind hm
                    refine G_meet (fun a w' => Mem [] w w' [sg3758, sg3815] ∧ Sat Try.f11.ntmps [(8, .slice p3294 r3757.2.length c3295), (9, .slice p3299 r3814.2.length c3300), (12, .int .i64 r3814.1), (119, .bool o3943)] a) ?_ ?_
                    · have hm := ho3944
                      refine G_region ?_
                      refine W_run 2 [(5, .slice p2319 r2312.2.1.length c2320), (6, .bool r2312.2.2), (8, .slice p3294 r3757.2.length c3295), (9, .slice p3299 r3814.2.length c3300), (12, .int .i64 r3814.1), (15, .slice p3926 r3919.2.1.length c3927), (16, .bool r3919.2.2), (105, .slice p3921 r3919.1.length c3922), (106, .slice p2314 r2312.1.length c2315)] w3930 (by kernel_rfl) ?_
                      obtain ⟨r3946, hr3946, hm⟩ := gx_bind hm
                      refine W_call 38 #[.slice p3921 r3919.1.length c3922, .slice p2314 r2312.1.length c2315] (by kernel_rfl) (by kernel_rfl) ?_
                      refine (c_l_eqStringS w3930 r3919.1 p3921 c3922 (ho3924.rd M3932 5 (by kernel_rfl)) r2312.1 p2314 c2315 (ho2317.rd M3932 0 (by kernel_rfl)) hr3946).mono ?_
                      rintro e_ w3947 ⟨rfl, K3948⟩
                      have M3949 := M3932.call0 K3948
                      refine ⟨_, rfl, ?_⟩
                      refine W_run 2 [(5, .slice p2319 r2312.2.1.length c2320), (6, .bool r2312.2.2), (8, .slice p3294 r3757.2.length c3295), (9, .slice p3299 r3814.2.length c3300), (12, .int .i64 r3814.1), (15, .slice p3926 r3919.2.1.length c3927), (16, .bool r3919.2.2), (109, .bool (!r3946))] w3947 (by kernel_rfl) ?_
                      rcases gx_bif hm with ⟨hc3950, hm⟩ | ⟨hc3950, hm⟩
                      · refine W_known 109 true (by kernel_rfl) hc3950 ?_
                        refine W_run 10 [(8, .slice p3294 r3757.2.length c3295), (9, .slice p3299 r3814.2.length c3300), (12, .int .i64 r3814.1), (119, .bool true)] w3947 (by kernel_rfl) ?_
                        refine W_nil ?_
                        obtain rfl := Option.some.inj hm
                        exact N_meet fun a ha => ⟨M3949.pick [2, 3] (by kernel_rfl), ha.sub (by kernel_rfl)⟩
                      · refine W_known 109 false (by kernel_rfl) hc3950 ?_
                        refine W_run 2 [(6, .bool r2312.2.2), (8, .slice p3294 r3757.2.length c3295), (9, .slice p3299 r3814.2.length c3300), (12, .int .i64 r3814.1), (16, .bool r3919.2.2), (109, .bool false), (110, .slice p3926 r3919.2.1.length c3927), (111, .slice p2319 r2312.2.1.length c2320)] w3947 (by kernel_rfl) ?_
                        obtain ⟨r3951, hr3951, hm⟩ := gx_bind hm
                        refine W_call 39 #[.slice p3926 r3919.2.1.length c3927, .slice p2319 r2312.2.1.length c2320] (by kernel_rfl) (by kernel_rfl) ?_
                        refine (c_l_eqIntS w3947 r3919.2.1 p3926 c3927 (ho3929.rd M3949 6 (by kernel_rfl)) r2312.2.1 p2319 c2320 (ho2322.rd M3949 1 (by kernel_rfl)) hr3951).mono ?_
                        rintro e_ w3952 ⟨rfl, K3953⟩
                        have M3954 := M3949.call0 K3953
                        refine ⟨_, rfl, ?_⟩
                        refine W_run 3 [(6, .bool r2312.2.2), (8, .slice p3294 r3757.2.length c3295), (9, .slice p3299 r3814.2.length c3300), (12, .int .i64 r3814.1), (16, .bool r3919.2.2), (115, .bool (!r3951))] w3952 (by kernel_rfl) ?_
                        rcases gx_bif hm with ⟨hc3955, hm⟩ | ⟨hc3955, hm⟩
                        · refine W_known 115 true (by kernel_rfl) hc3955 ?_
                          refine W_run 4 [(8, .slice p3294 r3757.2.length c3295), (9, .slice p3299 r3814.2.length c3300), (12, .int .i64 r3814.1), (119, .bool true)] w3952 (by kernel_rfl) ?_
                          refine W_nil ?_
                          obtain rfl := Option.some.inj hm
                          exact N_meet fun a ha => ⟨M3954.pick [2, 3] (by kernel_rfl), ha.sub (by kernel_rfl)⟩
                        · refine W_known 115 false (by kernel_rfl) hc3955 ?_
                          refine W_run 4 [(8, .slice p3294 r3757.2.length c3295), (9, .slice p3299 r3814.2.length c3300), (12, .int .i64 r3814.1), (119, .bool (!(r3919.2.2 == r2312.2.2)))] w3952 (by kernel_rfl) ?_
                          refine W_nil ?_
                          obtain rfl := Option.some.inj hm
                          exact N_meet fun a ha => ⟨M3954.pick [2, 3] (by kernel_rfl), ha.sub (by kernel_rfl)⟩
                    · intro a3958 w3956 ⟨M3957, hS3959⟩
                      refine N_use hS3959 ?_
                      have hm := hm3945
                      refine N_then ?_
                      rcases gx_bif hm with ⟨hc3960, hm⟩ | ⟨hc3960, hm⟩
                      · refine G_cond_t (b := o3943) hc3960 (by kernel_rfl) ?_
                        refine G_seq ?_
                        refine G_region ?_
                        refine W_run 1 [(2, .bool false)] w3956 (by kernel_rfl) ?_
                        refine W_nil ?_
                        refine N_then ?_
                        refine G_ret ?_
                        refine N_then_ret ?_
                        obtain rfl := Option.some.inj hm
                        refine N_ret [.bool false] (RVs_cons (RV_tmp (by kernel_rfl)) RVs_nil) ?_
                        exact ⟨rfl, M3957.pick [] (by kernel_rfl)⟩
                      · refine G_cond_f (b := o3943) hc3960 (by kernel_rfl) ?_
                        refine G_skip ?_
                        refine N_then ?_
                        refine G_seq ?_
                        refine G_region ?_
                        refine W_run 1 [(8, .slice p3294 r3757.2.length c3295), (9, .slice p3299 r3814.2.length c3300), (12, .int .i64 r3814.1), (13, .int .i64 1)] w3956 (by kernel_rfl) ?_
                        refine W_nil ?_
                        refine N_then ?_
                        refine G_seq ?_
                        refine G_region ?_
                        refine W_run 2 [(9, .slice p3299 r3814.2.length c3300), (12, .int .i64 r3814.1), (13, .int .i64 1), (120, .slice p3294 r3757.2.length c3295), (121, .int .i64 1)] w3956 (by kernel_rfl) ?_
                        obtain ⟨r3961, hr3961, hm⟩ := gx_bind hm
                        refine W_call 42 #[.slice p3294 r3757.2.length c3295, .int .i64 1] (by kernel_rfl) (by kernel_rfl) ?_
                        refine (c_l_heldStringS w3956 r3757.2 p3294 c3295 (ho3759.rd M3957 0 (by kernel_rfl)) 1 hr3961).mono ?_
                        rintro e_ w3962 ⟨rfl, K3963⟩
                        have M3964 := M3957.call0 K3963
                        refine ⟨_, rfl, ?_⟩
                        refine W_run 1 [(9, .slice p3299 r3814.2.length c3300), (12, .int .i64 r3814.1), (13, .int .i64 r3961)] w3962 (by kernel_rfl) ?_
                        refine W_nil ?_
                        refine N_then ?_
                        refine G_seq ?_
                        refine G_seq ?_
                        refine G_region ?_
                        refine W_run 2 [(9, .slice p3299 r3814.2.length c3300), (12, .int .i64 r3814.1), (13, .int .i64 r3961), (124, .bool (decide (r3961 < 0)))] w3962 (by kernel_rfl) ?_
                        refine W_nil ?_
                        refine N_then ?_
                        rcases gx_bif hm with ⟨hc3965, hm⟩ | ⟨hc3965, hm⟩
                        · refine G_cond_t (b := (decide (r3961 < 0))) hc3965 (by kernel_rfl) ?_
                          refine G_seq ?_
                          refine G_region ?_
                          refine W_run 1 [(2, .bool false)] w3962 (by kernel_rfl) ?_
                          refine W_nil ?_
                          refine N_then ?_
                          refine G_ret ?_
                          refine N_then_ret ?_
                          obtain rfl := Option.some.inj hm
                          refine N_ret [.bool false] (RVs_cons (RV_tmp (by kernel_rfl)) RVs_nil) ?_
                          exact ⟨rfl, M3964.pick [] (by kernel_rfl)⟩
                        · refine G_cond_f (b := (decide (r3961 < 0))) hc3965 (by kernel_rfl) ?_
                          refine G_skip ?_
                          refine N_then ?_
                          refine G_seq ?_
                          refine G_region ?_
                          refine W_run 2 [(12, .int .i64 r3814.1), (13, .int .i64 r3961), (125, .slice p3299 r3814.2.length c3300), (126, .int .i64 r3961)] w3962 (by kernel_rfl) ?_
                          obtain ⟨r3966, hr3966, hm⟩ := gx_bind hm
                          refine W_call 43 #[.slice p3299 r3814.2.length c3300, .int .i64 r3961] (by kernel_rfl) (by kernel_rfl) ?_
                          refine (c_l_heldIntS w3962 r3814.2 p3299 c3300 (ho3816.rd M3964 1 (by kernel_rfl)) r3961 hr3966).mono ?_
                          rintro e_ w3967 ⟨rfl, K3968⟩
                          have M3969 := M3964.call0 K3968
                          refine ⟨_, rfl, ?_⟩
                          refine W_run 1 [(12, .int .i64 r3814.1), (13, .int .i64 r3966)] w3967 (by kernel_rfl) ?_
                          refine W_nil ?_
                          refine N_then ?_
                          refine G_seq ?_
                          refine G_seq ?_
                          refine G_region ?_
                          refine W_run 2 [(12, .int .i64 r3814.1), (13, .int .i64 r3966), (129, .bool (decide (r3966 < 0)))] w3967 (by kernel_rfl) ?_
                          refine W_nil ?_
                          refine N_then ?_
                          rcases gx_bif hm with ⟨hc3970, hm⟩ | ⟨hc3970, hm⟩
                          · refine G_cond_t (b := (decide (r3966 < 0))) hc3970 (by kernel_rfl) ?_
                            refine G_seq ?_
                            refine G_region ?_
                            refine W_run 1 [(2, .bool false)] w3967 (by kernel_rfl) ?_
                            refine W_nil ?_
                            refine N_then ?_
                            refine G_ret ?_
                            refine N_then_ret ?_
                            obtain rfl := Option.some.inj hm
                            refine N_ret [.bool false] (RVs_cons (RV_tmp (by kernel_rfl)) RVs_nil) ?_
                            exact ⟨rfl, M3969.pick [] (by kernel_rfl)⟩
                          · refine G_cond_f (b := (decide (r3966 < 0))) hc3970 (by kernel_rfl) ?_
                            refine G_skip ?_
                            refine N_then ?_
                            refine G_seq ?_
                            refine G_seq ?_
                            refine G_region ?_
                            refine W_run 3 [(132, .bool (r3966 != r3814.1))] w3967 (by kernel_rfl) ?_
                            refine W_nil ?_
                            refine N_then ?_
                            rcases gx_bif hm with ⟨hc3971, hm⟩ | ⟨hc3971, hm⟩
                            · refine G_cond_t (b := (r3966 != r3814.1)) hc3971 (by kernel_rfl) ?_
                              refine G_seq ?_
                              refine G_region ?_
                              refine W_run 1 [(2, .bool false)] w3967 (by kernel_rfl) ?_
                              refine W_nil ?_
                              refine N_then ?_
                              refine G_ret ?_
                              refine N_then_ret ?_
                              obtain rfl := Option.some.inj hm
                              refine N_ret [.bool false] (RVs_cons (RV_tmp (by kernel_rfl)) RVs_nil) ?_
                              exact ⟨rfl, M3969.pick [] (by kernel_rfl)⟩
                            · refine G_cond_f (b := (r3966 != r3814.1)) hc3971 (by kernel_rfl) ?_
                              refine G_skip ?_
                              refine N_then ?_
                              refine G_seq ?_
                              refine G_region ?_
                              refine W_run 1 [(2, .bool true)] w3967 (by kernel_rfl) ?_
                              refine W_nil ?_
                              refine N_then ?_
                              refine G_ret ?_
                              obtain rfl := Option.some.inj hm
                              refine N_ret [.bool true] (RVs_cons (RV_tmp (by kernel_rfl)) RVs_nil) ?_
                              exact ⟨rfl, M3969.pick [] (by kernel_rfl)⟩
end Go.Proofs.Ytfcebglkdfadcaa
