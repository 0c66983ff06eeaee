/- The walks, printed by program: whenever the model gives r, the call returns r. Part 2. -/
import Derived.Test.YtllhajkgkghhdaaGreatAM
import Derived.Test.YtllhajkgkghhdaaGreatProg
import Derived.Test.YtllhajkgkghhdaaGreatSh
import Derived.Test.YtllhajkgkghhdaaGreatAC1
set_option linter.unusedVariables false
set_option maxRecDepth 100000
set_option maxHeartbeats 4000000
namespace Go.Proofs.YtllhajkgkghhdaaGreat
open Go.Gx
theorem c_s_l8Best (w : World) (x2118 : List Slot) (p2120 : Option Addr) (c2121 : Nat) (h2122 : rdS encSlot w x2118 p2120 c2121) (x2123 : Bool) {r : Int} (hm : M.s_l8Best x2118 x2123 = some r) :
    Calls Tryz.prog 236 #[.slice p2120 x2118.length c2121, .bool x2123] w fun e w' => e = .returned (.int .i64 r) ∧ Mem [] w w' [] := by
  unfold M.s_l8Best at hm
  refine C_enter Tryz.func236 rfl (by kernel_rfl) ?_
  have M0 := Mem.refl [] w
  refine G_seq ?_
  refine G_region ?_
  refine W_run 1 [(0, .slice p2120 x2118.length c2121), (1, .bool x2123)] w (by kernel_rfl) ?_
  refine W_nil ?_
  refine N_then ?_
  refine G_seq ?_
  refine G_region ?_
  refine W_run 1 [(0, .slice p2120 x2118.length c2121), (1, .bool x2123), (5, .int .i64 (-1))] w (by kernel_rfl) ?_
  refine W_nil ?_
  refine N_then ?_
  refine G_seq ?_
  refine G_seq ?_
  refine G_region ?_
  refine W_run 1 [(0, .slice p2120 x2118.length c2121), (1, .bool x2123), (5, .int .i64 (-1)), (6, .int .i64 0)] w (by kernel_rfl) ?_
  refine W_nil ?_
  refine N_then ?_
  obtain ⟨out2523, hw2524, hmo2525⟩ := gx_bind hm
  refine G_meet (fun a w' => Mem [] w w' [] ∧ Sat Tryz.f236.ntmps [(5, .int .i64 out2523)] a) ?_ ?_
  · refine G_block ?_
    refine G_while (σ := Int × Int) (ρ := Int) (fun s2516 a w' => Mem [] w w' [] ∧ Sat Tryz.f236.ntmps [(0, .slice p2120 x2118.length c2121), (1, .bool x2123), (5, .int .i64 s2516.1), (6, .int .i64 s2516.2)] a) hw2524 (fun a ha => ⟨M0.pick [] (by kernel_rfl), ha.sub (by kernel_rfl)⟩) ?_
    clear hm
    intro s2516 x2517 hm hout2518 a2519 w2520 ⟨M2521, hS2522⟩
    refine G_use hS2522 ?_
    refine G_seq ?_
    refine G_seq ?_
    refine G_region ?_
    refine W_run 4 [(0, .slice p2120 x2118.length c2121), (1, .bool x2123), (5, .int .i64 s2516.1), (6, .int .i64 s2516.2), (11, .bool (decide (s2516.2 < (x2118.length : Int))))] w2520 (by kernel_rfl) ?_
    refine W_nil ?_
    refine N_then ?_
    rcases gx_bif hm with ⟨hc2527, hm⟩ | ⟨hc2527, hm⟩
    · refine G_cond_t (b := (decide (s2516.2 < (x2118.length : Int)))) hc2527 (by kernel_rfl) ?_
      refine G_skip ?_
      refine N_then ?_
      refine G_seq ?_
      obtain ⟨o2622, ho2623, hm2624⟩ := gx_bind hm
      refine G_meet (fun a w' => Mem [] w w' [] ∧ Sat Tryz.f236.ntmps [(0, .slice p2120 x2118.length c2121), (1, .bool x2123), (5, .int .i64 o2622), (6, .int .i64 s2516.2)] a) ?_ ?_
      · have hm := ho2623
        refine G_block ?_
        refine G_seq ?_
        refine G_region ?_
        refine W_run 2 [(0, .slice p2120 x2118.length c2121), (1, .bool x2123), (5, .int .i64 s2516.1), (6, .int .i64 s2516.2), (14, .slice p2120 x2118.length c2121), (15, .int .i64 s2516.2)] w2520 (by kernel_rfl) ?_
        obtain ⟨y2625, hy2625, hm⟩ := gx_bind hm
        refine W_val (elemP p2120 (s2516.2.toNat * 3)) w2520 (by kernel_rfl) (E_index (E := encSlot) _ _ _ x2118.length c2121 .i64 s2516.2 3 (y := y2625) rfl (by kernel_rfl) (by kernel_rfl) (by kernel_rfl) (h2122.mem0 M2521) rfl hy2625) ?_
        refine W_val (.agg #[.int .i64 y2625.State, .int .i64 y2625.Irq, .int .i64 y2625.Priority]) w2520 (by kernel_rfl) (E_loadE (E := encSlot) _ _ true 3 s2516.2 0 (s2516.2.toNat * 3) y2625 (.agg #[.int .i64 y2625.State, .int .i64 y2625.Irq, .int .i64 y2625.Priority]) rfl (by kernel_rfl) (by kernel_rfl) (by kernel_rfl) (h2122.mem0 M2521) hy2625 rfl) ?_
        refine W_new (fun b => .pointer (some ⟨b, 0, none⟩)) (.cells ⟨[.int .i64 0, .int .i64 0, .int .i64 0]⟩ 117 (0, 0)) M2521 rfl (by kernel_rfl) (by kernel_rfl) ?_
        intro b2627 w2628 M2629
        refine W_store _ _ _ true 3 b2627 0 [.int .i64 0, .int .i64 0, .int .i64 0] 117 (.agg #[.int .i64 y2625.State, .int .i64 y2625.Irq, .int .i64 y2625.Priority]) 0 [.int .i64 y2625.State, .int .i64 y2625.Irq, .int .i64 y2625.Priority] M2629 (by kernel_rfl) rfl (by kernel_rfl) (by kernel_rfl) (by kernel_rfl) (by kernel_rfl) (by kernel_rfl) (by kernel_rfl) (by kernel_rfl) (by kernel_rfl) ?_
        intro w2630 M2631
        refine W_nil ?_
        refine N_then ?_
        refine G_seq ?_
        refine G_seq ?_
        refine G_region ?_
        refine W_run 1 [(0, .slice p2120 x2118.length c2121), (1, .bool x2123), (5, .int .i64 s2516.1), (6, .int .i64 s2516.2), (7, .pointer (some ⟨b2627, 0, none⟩)), (18, .pointer (some ⟨b2627, 0, none⟩))] w2630 (by kernel_rfl) ?_
        refine W_val (.int .i64 y2625.State) w2630 (by kernel_rfl) (E_load (e := 117) (fr := (0, 0)) _ _ false 1 b2627 0 [.int .i64 y2625.State, .int .i64 y2625.Irq, .int .i64 y2625.Priority] (.int .i64 y2625.State) rfl (by kernel_rfl) (by kernel_rfl) (by kernel_rfl) (M2631.blk 0 (b := b2627) (o := .cells ⟨[.int .i64 y2625.State, .int .i64 y2625.Irq, .int .i64 y2625.Priority]⟩ 117 (0, 0)) (by kernel_rfl))) ?_
        refine W_run 1 [(0, .slice p2120 x2118.length c2121), (1, .bool x2123), (5, .int .i64 s2516.1), (6, .int .i64 s2516.2), (7, .pointer (some ⟨b2627, 0, none⟩)), (20, .bool (y2625.State != 1))] w2630 (by kernel_rfl) ?_
        refine W_nil ?_
        refine N_then ?_
        rcases gx_bif hm with ⟨hc2632, hm⟩ | ⟨hc2632, hm⟩
        · refine G_cond_t (b := (y2625.State != 1)) hc2632 (by kernel_rfl) ?_
          refine G_exit ?_
          refine N_then_exit ?_
          refine N_block_eq ?_
          obtain rfl := Option.some.inj hm
          exact N_meet fun a ha => ⟨M2631.pick [] (by kernel_rfl), ha.sub (by kernel_rfl)⟩
        · refine G_cond_f (b := (y2625.State != 1)) hc2632 (by kernel_rfl) ?_
          refine G_skip ?_
          refine N_then ?_
          refine G_seq ?_
          obtain ⟨o2668, ho2669, hm2670⟩ := gx_bind hm
          refine G_meet (fun a w' => Mem [] w w' [] ∧ Sat Tryz.f236.ntmps [(0, .slice p2120 x2118.length c2121), (1, .bool x2123), (5, .int .i64 s2516.1), (6, .int .i64 s2516.2), (63, .bool o2668)] a) ?_ ?_
          · have hm := ho2669
            refine G_quiet (by kernel_rfl) (by kernel_rfl) M2631 ?_
            refine Z_runs [.int .i64 s2516.1, .bool (decide (s2516.1 < 0)), .bool (decide (s2516.1 < 0))] [(0, .slice p2120 x2118.length c2121), (1, .bool x2123), (5, .int .i64 s2516.1), (6, .int .i64 s2516.2), (7, .pointer (some ⟨b2627, 0, none⟩)), (23, .bool (decide (s2516.1 < 0)))] (fun w_ => by kernel_rfl) (by kernel_rfl) ?_
            rcases gx_bif hm with ⟨hc2671, hm⟩ | ⟨hc2671, hm⟩
            · refine Z_known 23 true (by kernel_rfl) hc2671 ?_
              refine Z_runs [undef, undef, undef, undef, undef, undef, undef, undef, undef, undef, undef, undef, undef, undef, undef, undef, undef, undef, .bool true, .bool true, undef, undef, undef, undef, undef, undef, undef, undef, undef, undef, undef, undef, undef, undef, undef, undef, undef, undef, undef, .bool true] [(0, .slice p2120 x2118.length c2121), (1, .bool x2123), (5, .int .i64 s2516.1), (6, .int .i64 s2516.2), (63, .bool true)] (fun w_ => by kernel_rfl) (by kernel_rfl) ?_
              refine Z_end fun w2672 M2673 => ?_
              obtain rfl := Option.some.inj hm
              exact N_meet fun a ha => ⟨M2673.pick [] (by kernel_rfl), ha.sub (by kernel_rfl)⟩
            · refine Z_known 23 false (by kernel_rfl) hc2671 ?_
              refine Z_runs [.bool x2123, .bool x2123] [(0, .slice p2120 x2118.length c2121), (1, .bool x2123), (5, .int .i64 s2516.1), (6, .int .i64 s2516.2), (7, .pointer (some ⟨b2627, 0, none⟩)), (23, .bool false), (25, .bool x2123)] (fun w_ => by kernel_rfl) (by kernel_rfl) ?_
              rcases gx_bif hm with ⟨hc2674, hm⟩ | ⟨hc2674, hm⟩
              · refine Z_known 25 true (by kernel_rfl) hc2674 ?_
                refine Z_runs [.pointer (some ⟨b2627, 2, none⟩)] [(0, .slice p2120 x2118.length c2121), (1, .bool x2123), (5, .int .i64 s2516.1), (6, .int .i64 s2516.2), (7, .pointer (some ⟨b2627, 0, none⟩)), (23, .bool false), (25, .bool true), (26, .pointer (some ⟨b2627, 2, none⟩))] (fun w_ => by kernel_rfl) (by kernel_rfl) ?_
                refine Z_val (.int .i64 y2625.Priority) (by kernel_rfl) (fun w_ M_ => (E_load (e := 117) (fr := (0, 0)) _ _ false 1 b2627 2 [.int .i64 y2625.State, .int .i64 y2625.Irq, .int .i64 y2625.Priority] (.int .i64 y2625.Priority) rfl (by kernel_rfl) (by kernel_rfl) (by kernel_rfl) (M_.blk 0 (b := b2627) (o := .cells ⟨[.int .i64 y2625.State, .int .i64 y2625.Irq, .int .i64 y2625.Priority]⟩ 117 (0, 0)) (by kernel_rfl)))) ?_
                refine Z_runs [.pointer (some ⟨b2627, 1, none⟩)] [(0, .slice p2120 x2118.length c2121), (1, .bool x2123), (5, .int .i64 s2516.1), (6, .int .i64 s2516.2), (7, .pointer (some ⟨b2627, 0, none⟩)), (23, .bool false), (25, .bool true), (27, .int .i64 y2625.Priority), (28, .pointer (some ⟨b2627, 1, none⟩))] (fun w_ => by kernel_rfl) (by kernel_rfl) ?_
                refine Z_val (.int .i64 y2625.Irq) (by kernel_rfl) (fun w_ M_ => (E_load (e := 117) (fr := (0, 0)) _ _ false 1 b2627 1 [.int .i64 y2625.State, .int .i64 y2625.Irq, .int .i64 y2625.Priority] (.int .i64 y2625.Irq) rfl (by kernel_rfl) (by kernel_rfl) (by kernel_rfl) (M_.blk 0 (b := b2627) (o := .cells ⟨[.int .i64 y2625.State, .int .i64 y2625.Irq, .int .i64 y2625.Priority]⟩ 117 (0, 0)) (by kernel_rfl)))) ?_
                refine Z_runs [.slice p2120 x2118.length c2121, .int .i64 s2516.1] [(0, .slice p2120 x2118.length c2121), (1, .bool x2123), (5, .int .i64 s2516.1), (6, .int .i64 s2516.2), (7, .pointer (some ⟨b2627, 0, none⟩)), (23, .bool false), (25, .bool true), (27, .int .i64 y2625.Priority), (29, .int .i64 y2625.Irq), (30, .slice p2120 x2118.length c2121), (31, .int .i64 s2516.1)] (fun w_ => by kernel_rfl) (by kernel_rfl) ?_
                obtain ⟨y2675, hy2675, hm⟩ := gx_bind hm
                refine Z_val (elemP p2120 (s2516.1.toNat * 3)) (by kernel_rfl) (fun w_ M_ => (E_index (E := encSlot) _ _ _ x2118.length c2121 .i64 s2516.1 3 (y := y2675) rfl (by kernel_rfl) (by kernel_rfl) (by kernel_rfl) (h2122.mem0 M_) rfl hy2675)) ?_
                refine Z_val (elemP p2120 (s2516.1.toNat * 3 + 2)) (by kernel_rfl) (fun w_ M_ => (E_fieldE (E := encSlot) _ _ 2 (s2516.1.toNat * 3) 2 rfl (by kernel_rfl) (by kernel_rfl) (h2122.mem0 M_) hy2675)) ?_
                refine Z_val (.int .i64 y2675.Priority) (by kernel_rfl) (fun w_ M_ => (E_loadE (E := encSlot) _ _ false 1 s2516.1 2 (s2516.1.toNat * 3 + 2) y2675 (.int .i64 y2675.Priority) rfl (by kernel_rfl) (by kernel_rfl) (by kernel_rfl) (h2122.mem0 M_) hy2675 rfl)) ?_
                refine Z_runs [.slice p2120 x2118.length c2121, .int .i64 s2516.1] [(0, .slice p2120 x2118.length c2121), (1, .bool x2123), (5, .int .i64 s2516.1), (6, .int .i64 s2516.2), (7, .pointer (some ⟨b2627, 0, none⟩)), (23, .bool false), (25, .bool true), (27, .int .i64 y2625.Priority), (29, .int .i64 y2625.Irq), (34, .int .i64 y2675.Priority), (35, .slice p2120 x2118.length c2121), (36, .int .i64 s2516.1)] (fun w_ => by kernel_rfl) (by kernel_rfl) ?_
                obtain ⟨y2676, hy2676, hm⟩ := gx_bind hm
                refine Z_val (elemP p2120 (s2516.1.toNat * 3)) (by kernel_rfl) (fun w_ M_ => (E_index (E := encSlot) _ _ _ x2118.length c2121 .i64 s2516.1 3 (y := y2676) rfl (by kernel_rfl) (by kernel_rfl) (by kernel_rfl) (h2122.mem0 M_) rfl hy2676)) ?_
                refine Z_val (elemP p2120 (s2516.1.toNat * 3 + 1)) (by kernel_rfl) (fun w_ M_ => (E_fieldE (E := encSlot) _ _ 1 (s2516.1.toNat * 3) 1 rfl (by kernel_rfl) (by kernel_rfl) (h2122.mem0 M_) hy2676)) ?_
                refine Z_val (.int .i64 y2676.Irq) (by kernel_rfl) (fun w_ M_ => (E_loadE (E := encSlot) _ _ false 1 s2516.1 1 (s2516.1.toNat * 3 + 1) y2676 (.int .i64 y2676.Irq) rfl (by kernel_rfl) (by kernel_rfl) (by kernel_rfl) (h2122.mem0 M_) hy2676 rfl)) ?_
                obtain ⟨r2677, hr2677, hm⟩ := gx_bind hm
                refine Z_call 171 #[.int .i64 y2625.Priority, .int .i64 y2625.Irq, .int .i64 y2675.Priority, .int .i64 y2676.Irq] (.bool r2677) (by kernel_rfl) (fun w_ => by kernel_rfl) (fun w_ M_ => (c_s_l8Less w_ y2625.Priority y2625.Irq y2675.Priority y2676.Irq hr2677).mono fun e w2_ h_ => ⟨h_.1, M_.call0 h_.2⟩) ?_
                refine Z_runs [.bool r2677, .bool r2677, .bool r2677] [(0, .slice p2120 x2118.length c2121), (1, .bool x2123), (5, .int .i64 s2516.1), (6, .int .i64 s2516.2), (7, .pointer (some ⟨b2627, 0, none⟩)), (43, .bool r2677)] (fun w_ => by kernel_rfl) (by kernel_rfl) ?_
                rcases gx_bif hm with ⟨hc2681, hm⟩ | ⟨hc2681, hm⟩
                · refine Z_known 43 true (by kernel_rfl) hc2681 ?_
                  refine Z_runs [undef, undef, undef, undef, undef, undef, undef, undef, undef, undef, undef, undef, undef, undef, undef, undef, undef, undef, undef, .bool true] [(0, .slice p2120 x2118.length c2121), (1, .bool x2123), (5, .int .i64 s2516.1), (6, .int .i64 s2516.2), (63, .bool true)] (fun w_ => by kernel_rfl) (by kernel_rfl) ?_
                  refine Z_end fun w2682 M2683 => ?_
                  obtain rfl := Option.some.inj hm
                  exact N_meet fun a ha => ⟨M2683.pick [] (by kernel_rfl), ha.sub (by kernel_rfl)⟩
                · refine Z_known 43 false (by kernel_rfl) hc2681 ?_
                  refine Z_runs [.bool x2123, .bool (!x2123), .bool (!x2123)] [(0, .slice p2120 x2118.length c2121), (1, .bool x2123), (5, .int .i64 s2516.1), (6, .int .i64 s2516.2), (7, .pointer (some ⟨b2627, 0, none⟩)), (43, .bool false), (46, .bool (!x2123))] (fun w_ => by kernel_rfl) (by kernel_rfl) ?_
                  rcases gx_bif hm with ⟨hc2684, hm⟩ | ⟨hc2684, hm⟩
                  · refine Z_known 46 true (by kernel_rfl) hc2684 ?_
                    refine Z_runs [.slice p2120 x2118.length c2121, .int .i64 s2516.1] [(0, .slice p2120 x2118.length c2121), (1, .bool x2123), (5, .int .i64 s2516.1), (6, .int .i64 s2516.2), (7, .pointer (some ⟨b2627, 0, none⟩)), (43, .bool false), (46, .bool true), (47, .slice p2120 x2118.length c2121), (48, .int .i64 s2516.1)] (fun w_ => by kernel_rfl) (by kernel_rfl) ?_
                    obtain ⟨y2685, hy2685, hm⟩ := gx_bind hm
                    refine Z_val (elemP p2120 (s2516.1.toNat * 3)) (by kernel_rfl) (fun w_ M_ => (E_index (E := encSlot) _ _ _ x2118.length c2121 .i64 s2516.1 3 (y := y2685) rfl (by kernel_rfl) (by kernel_rfl) (by kernel_rfl) (h2122.mem0 M_) rfl hy2685)) ?_
                    refine Z_val (elemP p2120 (s2516.1.toNat * 3 + 2)) (by kernel_rfl) (fun w_ M_ => (E_fieldE (E := encSlot) _ _ 2 (s2516.1.toNat * 3) 2 rfl (by kernel_rfl) (by kernel_rfl) (h2122.mem0 M_) hy2685)) ?_
                    refine Z_val (.int .i64 y2685.Priority) (by kernel_rfl) (fun w_ M_ => (E_loadE (E := encSlot) _ _ false 1 s2516.1 2 (s2516.1.toNat * 3 + 2) y2685 (.int .i64 y2685.Priority) rfl (by kernel_rfl) (by kernel_rfl) (by kernel_rfl) (h2122.mem0 M_) hy2685 rfl)) ?_
                    refine Z_runs [.slice p2120 x2118.length c2121, .int .i64 s2516.1] [(0, .slice p2120 x2118.length c2121), (1, .bool x2123), (5, .int .i64 s2516.1), (6, .int .i64 s2516.2), (7, .pointer (some ⟨b2627, 0, none⟩)), (43, .bool false), (46, .bool true), (51, .int .i64 y2685.Priority), (52, .slice p2120 x2118.length c2121), (53, .int .i64 s2516.1)] (fun w_ => by kernel_rfl) (by kernel_rfl) ?_
                    obtain ⟨y2686, hy2686, hm⟩ := gx_bind hm
                    refine Z_val (elemP p2120 (s2516.1.toNat * 3)) (by kernel_rfl) (fun w_ M_ => (E_index (E := encSlot) _ _ _ x2118.length c2121 .i64 s2516.1 3 (y := y2686) rfl (by kernel_rfl) (by kernel_rfl) (by kernel_rfl) (h2122.mem0 M_) rfl hy2686)) ?_
                    refine Z_val (elemP p2120 (s2516.1.toNat * 3 + 1)) (by kernel_rfl) (fun w_ M_ => (E_fieldE (E := encSlot) _ _ 1 (s2516.1.toNat * 3) 1 rfl (by kernel_rfl) (by kernel_rfl) (h2122.mem0 M_) hy2686)) ?_
                    refine Z_val (.int .i64 y2686.Irq) (by kernel_rfl) (fun w_ M_ => (E_loadE (E := encSlot) _ _ false 1 s2516.1 1 (s2516.1.toNat * 3 + 1) y2686 (.int .i64 y2686.Irq) rfl (by kernel_rfl) (by kernel_rfl) (by kernel_rfl) (h2122.mem0 M_) hy2686 rfl)) ?_
                    refine Z_runs [.pointer (some ⟨b2627, 2, none⟩)] [(0, .slice p2120 x2118.length c2121), (1, .bool x2123), (5, .int .i64 s2516.1), (6, .int .i64 s2516.2), (7, .pointer (some ⟨b2627, 0, none⟩)), (43, .bool false), (46, .bool true), (51, .int .i64 y2685.Priority), (56, .int .i64 y2686.Irq), (57, .pointer (some ⟨b2627, 2, none⟩))] (fun w_ => by kernel_rfl) (by kernel_rfl) ?_
                    refine Z_val (.int .i64 y2625.Priority) (by kernel_rfl) (fun w_ M_ => (E_load (e := 117) (fr := (0, 0)) _ _ false 1 b2627 2 [.int .i64 y2625.State, .int .i64 y2625.Irq, .int .i64 y2625.Priority] (.int .i64 y2625.Priority) rfl (by kernel_rfl) (by kernel_rfl) (by kernel_rfl) (M_.blk 0 (b := b2627) (o := .cells ⟨[.int .i64 y2625.State, .int .i64 y2625.Irq, .int .i64 y2625.Priority]⟩ 117 (0, 0)) (by kernel_rfl)))) ?_
                    refine Z_runs [.pointer (some ⟨b2627, 1, none⟩)] [(0, .slice p2120 x2118.length c2121), (1, .bool x2123), (5, .int .i64 s2516.1), (6, .int .i64 s2516.2), (43, .bool false), (46, .bool true), (51, .int .i64 y2685.Priority), (56, .int .i64 y2686.Irq), (58, .int .i64 y2625.Priority), (59, .pointer (some ⟨b2627, 1, none⟩))] (fun w_ => by kernel_rfl) (by kernel_rfl) ?_
                    refine Z_val (.int .i64 y2625.Irq) (by kernel_rfl) (fun w_ M_ => (E_load (e := 117) (fr := (0, 0)) _ _ false 1 b2627 1 [.int .i64 y2625.State, .int .i64 y2625.Irq, .int .i64 y2625.Priority] (.int .i64 y2625.Irq) rfl (by kernel_rfl) (by kernel_rfl) (by kernel_rfl) (M_.blk 0 (b := b2627) (o := .cells ⟨[.int .i64 y2625.State, .int .i64 y2625.Irq, .int .i64 y2625.Priority]⟩ 117 (0, 0)) (by kernel_rfl)))) ?_
                    obtain ⟨r2687, hr2687, hm⟩ := gx_bind hm
                    refine Z_call 171 #[.int .i64 y2685.Priority, .int .i64 y2686.Irq, .int .i64 y2625.Priority, .int .i64 y2625.Irq] (.bool r2687) (by kernel_rfl) (fun w_ => by kernel_rfl) (fun w_ M_ => (c_s_l8Less w_ y2685.Priority y2686.Irq y2625.Priority y2625.Irq hr2687).mono fun e w2_ h_ => ⟨h_.1, M_.call0 h_.2⟩) ?_
                    refine Z_runs [.bool r2687, .bool r2687] [(0, .slice p2120 x2118.length c2121), (1, .bool x2123), (5, .int .i64 s2516.1), (6, .int .i64 s2516.2), (63, .bool r2687)] (fun w_ => by kernel_rfl) (by kernel_rfl) ?_
                    refine Z_end fun w2691 M2692 => ?_
                    obtain rfl := Option.some.inj hm
                    exact N_meet fun a ha => ⟨M2692.pick [] (by kernel_rfl), ha.sub (by kernel_rfl)⟩
                  · refine Z_known 46 false (by kernel_rfl) hc2684 ?_
                    refine Z_runs [undef, undef, undef, undef, undef, undef, undef, undef, undef, undef, undef, undef, undef, undef, undef, .bool false, .bool false] [(0, .slice p2120 x2118.length c2121), (1, .bool x2123), (5, .int .i64 s2516.1), (6, .int .i64 s2516.2), (63, .bool false)] (fun w_ => by kernel_rfl) (by kernel_rfl) ?_
                    refine Z_end fun w2693 M2694 => ?_
                    obtain rfl := Option.some.inj hm
                    exact N_meet fun a ha => ⟨M2694.pick [] (by kernel_rfl), ha.sub (by kernel_rfl)⟩
              · refine Z_known 25 false (by kernel_rfl) hc2674 ?_
                refine Z_runs [undef, undef, undef, undef, undef, undef, undef, undef, undef, undef, undef, undef, undef, undef, undef, .bool false, .bool false, .bool false, .bool x2123, .bool (!x2123), .bool (!x2123)] [(0, .slice p2120 x2118.length c2121), (1, .bool x2123), (5, .int .i64 s2516.1), (6, .int .i64 s2516.2), (7, .pointer (some ⟨b2627, 0, none⟩)), (43, .bool false), (46, .bool (!x2123))] (fun w_ => by kernel_rfl) (by kernel_rfl) ?_
                rcases gx_bif hm with ⟨hc2695, hm⟩ | ⟨hc2695, hm⟩
                · refine Z_known 46 true (by kernel_rfl) hc2695 ?_
                  refine Z_runs [.slice p2120 x2118.length c2121, .int .i64 s2516.1] [(0, .slice p2120 x2118.length c2121), (1, .bool x2123), (5, .int .i64 s2516.1), (6, .int .i64 s2516.2), (7, .pointer (some ⟨b2627, 0, none⟩)), (43, .bool false), (46, .bool true), (47, .slice p2120 x2118.length c2121), (48, .int .i64 s2516.1)] (fun w_ => by kernel_rfl) (by kernel_rfl) ?_
                  obtain ⟨y2696, hy2696, hm⟩ := gx_bind hm
                  refine Z_val (elemP p2120 (s2516.1.toNat * 3)) (by kernel_rfl) (fun w_ M_ => (E_index (E := encSlot) _ _ _ x2118.length c2121 .i64 s2516.1 3 (y := y2696) rfl (by kernel_rfl) (by kernel_rfl) (by kernel_rfl) (h2122.mem0 M_) rfl hy2696)) ?_
                  refine Z_val (elemP p2120 (s2516.1.toNat * 3 + 2)) (by kernel_rfl) (fun w_ M_ => (E_fieldE (E := encSlot) _ _ 2 (s2516.1.toNat * 3) 2 rfl (by kernel_rfl) (by kernel_rfl) (h2122.mem0 M_) hy2696)) ?_
                  refine Z_val (.int .i64 y2696.Priority) (by kernel_rfl) (fun w_ M_ => (E_loadE (E := encSlot) _ _ false 1 s2516.1 2 (s2516.1.toNat * 3 + 2) y2696 (.int .i64 y2696.Priority) rfl (by kernel_rfl) (by kernel_rfl) (by kernel_rfl) (h2122.mem0 M_) hy2696 rfl)) ?_
                  refine Z_runs [.slice p2120 x2118.length c2121, .int .i64 s2516.1] [(0, .slice p2120 x2118.length c2121), (1, .bool x2123), (5, .int .i64 s2516.1), (6, .int .i64 s2516.2), (7, .pointer (some ⟨b2627, 0, none⟩)), (43, .bool false), (46, .bool true), (51, .int .i64 y2696.Priority), (52, .slice p2120 x2118.length c2121), (53, .int .i64 s2516.1)] (fun w_ => by kernel_rfl) (by kernel_rfl) ?_
                  obtain ⟨y2697, hy2697, hm⟩ := gx_bind hm
                  refine Z_val (elemP p2120 (s2516.1.toNat * 3)) (by kernel_rfl) (fun w_ M_ => (E_index (E := encSlot) _ _ _ x2118.length c2121 .i64 s2516.1 3 (y := y2697) rfl (by kernel_rfl) (by kernel_rfl) (by kernel_rfl) (h2122.mem0 M_) rfl hy2697)) ?_
                  refine Z_val (elemP p2120 (s2516.1.toNat * 3 + 1)) (by kernel_rfl) (fun w_ M_ => (E_fieldE (E := encSlot) _ _ 1 (s2516.1.toNat * 3) 1 rfl (by kernel_rfl) (by kernel_rfl) (h2122.mem0 M_) hy2697)) ?_
                  refine Z_val (.int .i64 y2697.Irq) (by kernel_rfl) (fun w_ M_ => (E_loadE (E := encSlot) _ _ false 1 s2516.1 1 (s2516.1.toNat * 3 + 1) y2697 (.int .i64 y2697.Irq) rfl (by kernel_rfl) (by kernel_rfl) (by kernel_rfl) (h2122.mem0 M_) hy2697 rfl)) ?_
                  refine Z_runs [.pointer (some ⟨b2627, 2, none⟩)] [(0, .slice p2120 x2118.length c2121), (1, .bool x2123), (5, .int .i64 s2516.1), (6, .int .i64 s2516.2), (7, .pointer (some ⟨b2627, 0, none⟩)), (43, .bool false), (46, .bool true), (51, .int .i64 y2696.Priority), (56, .int .i64 y2697.Irq), (57, .pointer (some ⟨b2627, 2, none⟩))] (fun w_ => by kernel_rfl) (by kernel_rfl) ?_
                  refine Z_val (.int .i64 y2625.Priority) (by kernel_rfl) (fun w_ M_ => (E_load (e := 117) (fr := (0, 0)) _ _ false 1 b2627 2 [.int .i64 y2625.State, .int .i64 y2625.Irq, .int .i64 y2625.Priority] (.int .i64 y2625.Priority) rfl (by kernel_rfl) (by kernel_rfl) (by kernel_rfl) (M_.blk 0 (b := b2627) (o := .cells ⟨[.int .i64 y2625.State, .int .i64 y2625.Irq, .int .i64 y2625.Priority]⟩ 117 (0, 0)) (by kernel_rfl)))) ?_
                  refine Z_runs [.pointer (some ⟨b2627, 1, none⟩)] [(0, .slice p2120 x2118.length c2121), (1, .bool x2123), (5, .int .i64 s2516.1), (6, .int .i64 s2516.2), (43, .bool false), (46, .bool true), (51, .int .i64 y2696.Priority), (56, .int .i64 y2697.Irq), (58, .int .i64 y2625.Priority), (59, .pointer (some ⟨b2627, 1, none⟩))] (fun w_ => by kernel_rfl) (by kernel_rfl) ?_
                  refine Z_val (.int .i64 y2625.Irq) (by kernel_rfl) (fun w_ M_ => (E_load (e := 117) (fr := (0, 0)) _ _ false 1 b2627 1 [.int .i64 y2625.State, .int .i64 y2625.Irq, .int .i64 y2625.Priority] (.int .i64 y2625.Irq) rfl (by kernel_rfl) (by kernel_rfl) (by kernel_rfl) (M_.blk 0 (b := b2627) (o := .cells ⟨[.int .i64 y2625.State, .int .i64 y2625.Irq, .int .i64 y2625.Priority]⟩ 117 (0, 0)) (by kernel_rfl)))) ?_
                  obtain ⟨r2698, hr2698, hm⟩ := gx_bind hm
                  refine Z_call 171 #[.int .i64 y2696.Priority, .int .i64 y2697.Irq, .int .i64 y2625.Priority, .int .i64 y2625.Irq] (.bool r2698) (by kernel_rfl) (fun w_ => by kernel_rfl) (fun w_ M_ => (c_s_l8Less w_ y2696.Priority y2697.Irq y2625.Priority y2625.Irq hr2698).mono fun e w2_ h_ => ⟨h_.1, M_.call0 h_.2⟩) ?_
                  refine Z_runs [.bool r2698, .bool r2698] [(0, .slice p2120 x2118.length c2121), (1, .bool x2123), (5, .int .i64 s2516.1), (6, .int .i64 s2516.2), (63, .bool r2698)] (fun w_ => by kernel_rfl) (by kernel_rfl) ?_
                  refine Z_end fun w2702 M2703 => ?_
                  obtain rfl := Option.some.inj hm
                  exact N_meet fun a ha => ⟨M2703.pick [] (by kernel_rfl), ha.sub (by kernel_rfl)⟩
                · refine Z_known 46 false (by kernel_rfl) hc2695 ?_
                  refine Z_runs [undef, undef, undef, undef, undef, undef, undef, undef, undef, undef, undef, undef, undef, undef, undef, .bool false, .bool false] [(0, .slice p2120 x2118.length c2121), (1, .bool x2123), (5, .int .i64 s2516.1), (6, .int .i64 s2516.2), (63, .bool false)] (fun w_ => by kernel_rfl) (by kernel_rfl) ?_
                  refine Z_end fun w2704 M2705 => ?_
                  obtain rfl := Option.some.inj hm
                  exact N_meet fun a ha => ⟨M2705.pick [] (by kernel_rfl), ha.sub (by kernel_rfl)⟩
          · intro a2708 w2706 ⟨M2707, hS2709⟩
            refine N_use hS2709 ?_
            have hm := hm2670
            refine N_then ?_
            obtain ⟨o2711, ho2712, hm2713⟩ := gx_bind hm
            refine G_meet (fun a w' => Mem [] w w' [] ∧ Sat Tryz.f236.ntmps [(0, .slice p2120 x2118.length c2121), (1, .bool x2123), (5, .int .i64 o2711), (6, .int .i64 s2516.2)] a) ?_ ?_
            · have hm := ho2712
              rcases gx_bif hm with ⟨hc2714, hm⟩ | ⟨hc2714, hm⟩
              · refine G_cond_t (b := o2668) hc2714 (by kernel_rfl) ?_
                refine G_region ?_
                refine W_run 2 [(0, .slice p2120 x2118.length c2121), (1, .bool x2123), (5, .int .i64 s2516.2), (6, .int .i64 s2516.2)] w2706 (by kernel_rfl) ?_
                refine W_nil ?_
                obtain rfl := Option.some.inj hm
                exact N_meet fun a ha => ⟨M2707.pick [] (by kernel_rfl), ha.sub (by kernel_rfl)⟩
              · refine G_cond_f (b := o2668) hc2714 (by kernel_rfl) ?_
                refine G_skip ?_
                obtain rfl := Option.some.inj hm
                exact N_meet fun a ha => ⟨M2707.pick [] (by kernel_rfl), ha.sub (by kernel_rfl)⟩
            · intro a2717 w2715 ⟨M2716, hS2718⟩
              refine N_use hS2718 ?_
              have hm := hm2713
              refine N_block ?_
              obtain rfl := Option.some.inj hm
              exact N_meet fun a ha => ⟨M2716.pick [] (by kernel_rfl), ha.sub (by kernel_rfl)⟩
      · intro a2721 w2719 ⟨M2720, hS2722⟩
        refine N_use hS2722 ?_
        have hm := hm2624
        refine N_then ?_
        refine G_region ?_
        refine W_run 3 [(0, .slice p2120 x2118.length c2121), (1, .bool x2123), (5, .int .i64 o2622), (6, .int .i64 (w64 (s2516.2 + 1)))] w2719 (by kernel_rfl) ?_
        refine W_nil ?_
        obtain rfl := Option.some.inj hm
        exact N_loop fun a ha => ⟨_, rfl, M2720.pick [] (by kernel_rfl), ha.sub (by kernel_rfl)⟩
    · refine G_cond_f (b := (decide (s2516.2 < (x2118.length : Int)))) hc2527 (by kernel_rfl) ?_
      refine G_exit ?_
      refine N_then_exit ?_
      refine N_then_exit ?_
      refine N_block_eq ?_
      obtain rfl := Option.some.inj hm
      obtain rfl := hout2518 _ rfl
      exact N_meet fun a ha => ⟨M2521.pick [] (by kernel_rfl), ha.sub (by kernel_rfl)⟩
  · intro a2723 w2724 ⟨M2725, hS2726⟩
    refine N_use hS2726 ?_
    have hm := hmo2525
    refine N_then ?_
    refine G_seq ?_
    refine G_region ?_
    refine W_run 2 [(4, .int .i64 out2523)] w2724 (by kernel_rfl) ?_
    refine W_nil ?_
    refine N_then ?_
    refine G_ret ?_
    obtain rfl := Option.some.inj hm
    refine N_ret [.int .i64 out2523] (RVs_cons (RV_tmp (by kernel_rfl)) RVs_nil) ?_
    exact ⟨rfl, M2725.pick [] (by kernel_rfl)⟩
theorem c_s_l9Settled (w : World) (x2070 : Queue) (p2072 : Option Addr) (c2073 : Nat) (h2074 : rdS encSlot w x2070.Slots p2072 c2073) (p2076 : Option Addr) (c2077 : Nat) (h2078 : rdS encWaiter w x2070.Waiting p2076 c2077) {r : Bool} (hm : M.s_l9Settled x2070 = some r) :
    Calls Tryz.prog 190 #[.agg #[.slice p2072 x2070.Slots.length c2073, .slice p2076 x2070.Waiting.length c2077]] w fun e w' => e = .returned (.bool r) ∧ Mem [] w w' [] := by
  unfold M.s_l9Settled at hm
  refine C_enter Tryz.func190 rfl (by kernel_rfl) ?_
  have M0 := Mem.refl [] w
  refine G_seq ?_
  refine G_region ?_
  refine W_new (fun b => .pointer (some ⟨b, 0, none⟩)) (.cells ⟨[.slice p2072 x2070.Slots.length c2073, .slice p2076 x2070.Waiting.length c2077]⟩ 85 (0, 0)) M0 rfl (by kernel_rfl) (by kernel_rfl) ?_
  intro b2080 w2081 M2082
  refine W_run 1 [(1, .pointer (some ⟨b2080, 0, none⟩))] w2081 (by kernel_rfl) ?_
  refine W_nil ?_
  refine N_then ?_
  refine G_seq ?_
  refine G_seq ?_
  refine G_region ?_
  refine W_run 1 [(1, .pointer (some ⟨b2080, 0, none⟩)), (4, .pointer (some ⟨b2080, 1, none⟩))] w2081 (by kernel_rfl) ?_
  refine W_val (.slice p2076 x2070.Waiting.length c2077) w2081 (by kernel_rfl) (E_load (e := 85) (fr := (0, 0)) _ _ false 1 b2080 1 [.slice p2072 x2070.Slots.length c2073, .slice p2076 x2070.Waiting.length c2077] (.slice p2076 x2070.Waiting.length c2077) rfl (by kernel_rfl) (by kernel_rfl) (by kernel_rfl) (M2082.blk 0 (b := b2080) (o := .cells ⟨[.slice p2072 x2070.Slots.length c2073, .slice p2076 x2070.Waiting.length c2077]⟩ 85 (0, 0)) (by kernel_rfl))) ?_
  refine W_run 2 [(1, .pointer (some ⟨b2080, 0, none⟩)), (7, .bool ((x2070.Waiting.length : Int) == 0))] w2081 (by kernel_rfl) ?_
  refine W_nil ?_
  refine N_then ?_
  rcases gx_bif hm with ⟨hc2083, hm⟩ | ⟨hc2083, hm⟩
  · refine G_cond_t (b := ((x2070.Waiting.length : Int) == 0)) hc2083 (by kernel_rfl) ?_
    refine G_seq ?_
    refine G_region ?_
    refine W_run 1 [(2, .bool true)] w2081 (by kernel_rfl) ?_
    refine W_nil ?_
    refine N_then ?_
    refine G_ret ?_
    refine N_then_ret ?_
    obtain rfl := Option.some.inj hm
    refine N_ret [.bool true] (RVs_cons (RV_tmp (by kernel_rfl)) RVs_nil) ?_
    exact ⟨rfl, M2082.pick [] (by kernel_rfl)⟩
  · refine G_cond_f (b := ((x2070.Waiting.length : Int) == 0)) hc2083 (by kernel_rfl) ?_
    refine G_skip ?_
    refine N_then ?_
    refine G_seq ?_
    refine G_seq ?_
    refine G_region ?_
    refine W_run 1 [(1, .pointer (some ⟨b2080, 0, none⟩)), (8, .pointer (some ⟨b2080, 0, none⟩))] w2081 (by kernel_rfl) ?_
    refine W_val (.slice p2072 x2070.Slots.length c2073) w2081 (by kernel_rfl) (E_load (e := 85) (fr := (0, 0)) _ _ false 1 b2080 0 [.slice p2072 x2070.Slots.length c2073, .slice p2076 x2070.Waiting.length c2077] (.slice p2072 x2070.Slots.length c2073) rfl (by kernel_rfl) (by kernel_rfl) (by kernel_rfl) (M2082.blk 0 (b := b2080) (o := .cells ⟨[.slice p2072 x2070.Slots.length c2073, .slice p2076 x2070.Waiting.length c2077]⟩ 85 (0, 0)) (by kernel_rfl))) ?_
    obtain ⟨r2113, hr2113, hm⟩ := gx_bind hm
    refine W_call 235 #[.slice p2072 x2070.Slots.length c2073] (by kernel_rfl) (by kernel_rfl) ?_
    refine (c_s_l8Free w2081 x2070.Slots p2072 c2073 (h2074.mem0 M2082) hr2113).mono ?_
    rintro e_ w2114 ⟨rfl, K2115⟩
    have M2116 := M2082.call0 K2115
    refine ⟨_, rfl, ?_⟩
    refine W_run 1 [(1, .pointer (some ⟨b2080, 0, none⟩)), (11, .bool (decide (r2113 ≥ 0)))] w2114 (by kernel_rfl) ?_
    refine W_nil ?_
    refine N_then ?_
    rcases gx_bif hm with ⟨hc2117, hm⟩ | ⟨hc2117, hm⟩
    · refine G_cond_t (b := (decide (r2113 ≥ 0))) hc2117 (by kernel_rfl) ?_
      refine G_seq ?_
      refine G_region ?_
      refine W_run 1 [(2, .bool false)] w2114 (by kernel_rfl) ?_
      refine W_nil ?_
      refine N_then ?_
      refine G_ret ?_
      refine N_then_ret ?_
      obtain rfl := Option.some.inj hm
      refine N_ret [.bool false] (RVs_cons (RV_tmp (by kernel_rfl)) RVs_nil) ?_
      exact ⟨rfl, M2116.pick [] (by kernel_rfl)⟩
    · refine G_cond_f (b := (decide (r2113 ≥ 0))) hc2117 (by kernel_rfl) ?_
      refine G_skip ?_
      refine N_then ?_
      refine G_seq ?_
      refine G_region ?_
      refine W_run 1 [(1, .pointer (some ⟨b2080, 0, none⟩)), (12, .pointer (some ⟨b2080, 0, none⟩))] w2114 (by kernel_rfl) ?_
      refine W_val (.slice p2072 x2070.Slots.length c2073) w2114 (by kernel_rfl) (E_load (e := 85) (fr := (0, 0)) _ _ false 1 b2080 0 [.slice p2072 x2070.Slots.length c2073, .slice p2076 x2070.Waiting.length c2077] (.slice p2072 x2070.Slots.length c2073) rfl (by kernel_rfl) (by kernel_rfl) (by kernel_rfl) (M2116.blk 0 (b := b2080) (o := .cells ⟨[.slice p2072 x2070.Slots.length c2073, .slice p2076 x2070.Waiting.length c2077]⟩ 85 (0, 0)) (by kernel_rfl))) ?_
      obtain ⟨r2727, hr2727, hm⟩ := gx_bind hm
      refine W_call 236 #[.slice p2072 x2070.Slots.length c2073, .bool false] (by kernel_rfl) (by kernel_rfl) ?_
      refine (c_s_l8Best w2114 x2070.Slots p2072 c2073 (h2074.mem0 M2116) false hr2727).mono ?_
      rintro e_ w2728 ⟨rfl, K2729⟩
      have M2730 := M2116.call0 K2729
      refine ⟨_, rfl, ?_⟩
      refine W_run 1 [(1, .pointer (some ⟨b2080, 0, none⟩)), (3, .int .i64 r2727)] w2728 (by kernel_rfl) ?_
      refine W_nil ?_
      refine N_then ?_
      refine G_seq ?_
      obtain ⟨o2744, ho2745, hm2746⟩ := gx_bind hm
      refine G_meet (fun a w' => Mem [] w w' [] ∧ Sat Tryz.f190.ntmps [(2, .bool o2744)] a) ?_ ?_
      · have hm := ho2745
        refine G_quiet (by kernel_rfl) (by kernel_rfl) M2730 ?_
        refine Z_runs [.int .i64 r2727, .bool (decide (r2727 < 0)), .bool (decide (r2727 < 0))] [(1, .pointer (some ⟨b2080, 0, none⟩)), (3, .int .i64 r2727), (17, .bool (decide (r2727 < 0)))] (fun w_ => by kernel_rfl) (by kernel_rfl) ?_
        rcases gx_bif hm with ⟨hc2747, hm⟩ | ⟨hc2747, hm⟩
        · refine Z_known 17 true (by kernel_rfl) hc2747 ?_
          refine Z_runs [undef, undef, undef, undef, undef, undef, undef, undef, undef, undef, undef, undef, undef, undef, undef, undef, undef, undef, undef, undef, undef, undef, undef, .bool true, .bool true] [(2, .bool true)] (fun w_ => by kernel_rfl) (by kernel_rfl) ?_
          refine Z_end fun w2748 M2749 => ?_
          obtain rfl := Option.some.inj hm
          exact N_meet fun a ha => ⟨M2749.pick [] (by kernel_rfl), ha.sub (by kernel_rfl)⟩
        · refine Z_known 17 false (by kernel_rfl) hc2747 ?_
          refine Z_runs [.pointer (some ⟨b2080, 0, none⟩)] [(1, .pointer (some ⟨b2080, 0, none⟩)), (3, .int .i64 r2727), (17, .bool false), (18, .pointer (some ⟨b2080, 0, none⟩))] (fun w_ => by kernel_rfl) (by kernel_rfl) ?_
          refine Z_val (.slice p2072 x2070.Slots.length c2073) (by kernel_rfl) (fun w_ M_ => (E_load (e := 85) (fr := (0, 0)) _ _ false 1 b2080 0 [.slice p2072 x2070.Slots.length c2073, .slice p2076 x2070.Waiting.length c2077] (.slice p2072 x2070.Slots.length c2073) rfl (by kernel_rfl) (by kernel_rfl) (by kernel_rfl) (M_.blk 0 (b := b2080) (o := .cells ⟨[.slice p2072 x2070.Slots.length c2073, .slice p2076 x2070.Waiting.length c2077]⟩ 85 (0, 0)) (by kernel_rfl)))) ?_
          refine Z_runs [.int .i64 r2727] [(1, .pointer (some ⟨b2080, 0, none⟩)), (3, .int .i64 r2727), (17, .bool false), (19, .slice p2072 x2070.Slots.length c2073), (20, .int .i64 r2727)] (fun w_ => by kernel_rfl) (by kernel_rfl) ?_
          obtain ⟨y2750, hy2750, hm⟩ := gx_bind hm
          refine Z_val (elemP p2072 (r2727.toNat * 3)) (by kernel_rfl) (fun w_ M_ => (E_index (E := encSlot) _ _ _ x2070.Slots.length c2073 .i64 r2727 3 (y := y2750) rfl (by kernel_rfl) (by kernel_rfl) (by kernel_rfl) (h2074.mem0 M_) rfl hy2750)) ?_
          refine Z_val (elemP p2072 (r2727.toNat * 3 + 2)) (by kernel_rfl) (fun w_ M_ => (E_fieldE (E := encSlot) _ _ 2 (r2727.toNat * 3) 2 rfl (by kernel_rfl) (by kernel_rfl) (h2074.mem0 M_) hy2750)) ?_
          refine Z_val (.int .i64 y2750.Priority) (by kernel_rfl) (fun w_ M_ => (E_loadE (E := encSlot) _ _ false 1 r2727 2 (r2727.toNat * 3 + 2) y2750 (.int .i64 y2750.Priority) rfl (by kernel_rfl) (by kernel_rfl) (by kernel_rfl) (h2074.mem0 M_) hy2750 rfl)) ?_
          refine Z_runs [.pointer (some ⟨b2080, 0, none⟩)] [(1, .pointer (some ⟨b2080, 0, none⟩)), (3, .int .i64 r2727), (17, .bool false), (23, .int .i64 y2750.Priority), (24, .pointer (some ⟨b2080, 0, none⟩))] (fun w_ => by kernel_rfl) (by kernel_rfl) ?_
          refine Z_val (.slice p2072 x2070.Slots.length c2073) (by kernel_rfl) (fun w_ M_ => (E_load (e := 85) (fr := (0, 0)) _ _ false 1 b2080 0 [.slice p2072 x2070.Slots.length c2073, .slice p2076 x2070.Waiting.length c2077] (.slice p2072 x2070.Slots.length c2073) rfl (by kernel_rfl) (by kernel_rfl) (by kernel_rfl) (M_.blk 0 (b := b2080) (o := .cells ⟨[.slice p2072 x2070.Slots.length c2073, .slice p2076 x2070.Waiting.length c2077]⟩ 85 (0, 0)) (by kernel_rfl)))) ?_
          refine Z_runs [.int .i64 r2727] [(1, .pointer (some ⟨b2080, 0, none⟩)), (17, .bool false), (23, .int .i64 y2750.Priority), (25, .slice p2072 x2070.Slots.length c2073), (26, .int .i64 r2727)] (fun w_ => by kernel_rfl) (by kernel_rfl) ?_
          obtain ⟨y2751, hy2751, hm⟩ := gx_bind hm
          refine Z_val (elemP p2072 (r2727.toNat * 3)) (by kernel_rfl) (fun w_ M_ => (E_index (E := encSlot) _ _ _ x2070.Slots.length c2073 .i64 r2727 3 (y := y2751) rfl (by kernel_rfl) (by kernel_rfl) (by kernel_rfl) (h2074.mem0 M_) rfl hy2751)) ?_
          refine Z_val (elemP p2072 (r2727.toNat * 3 + 1)) (by kernel_rfl) (fun w_ M_ => (E_fieldE (E := encSlot) _ _ 1 (r2727.toNat * 3) 1 rfl (by kernel_rfl) (by kernel_rfl) (h2074.mem0 M_) hy2751)) ?_
          refine Z_val (.int .i64 y2751.Irq) (by kernel_rfl) (fun w_ M_ => (E_loadE (E := encSlot) _ _ false 1 r2727 1 (r2727.toNat * 3 + 1) y2751 (.int .i64 y2751.Irq) rfl (by kernel_rfl) (by kernel_rfl) (by kernel_rfl) (h2074.mem0 M_) hy2751 rfl)) ?_
          refine Z_runs [.pointer (some ⟨b2080, 1, none⟩)] [(1, .pointer (some ⟨b2080, 0, none⟩)), (17, .bool false), (23, .int .i64 y2750.Priority), (29, .int .i64 y2751.Irq), (30, .pointer (some ⟨b2080, 1, none⟩))] (fun w_ => by kernel_rfl) (by kernel_rfl) ?_
          refine Z_val (.slice p2076 x2070.Waiting.length c2077) (by kernel_rfl) (fun w_ M_ => (E_load (e := 85) (fr := (0, 0)) _ _ false 1 b2080 1 [.slice p2072 x2070.Slots.length c2073, .slice p2076 x2070.Waiting.length c2077] (.slice p2076 x2070.Waiting.length c2077) rfl (by kernel_rfl) (by kernel_rfl) (by kernel_rfl) (M_.blk 0 (b := b2080) (o := .cells ⟨[.slice p2072 x2070.Slots.length c2073, .slice p2076 x2070.Waiting.length c2077]⟩ 85 (0, 0)) (by kernel_rfl)))) ?_
          obtain ⟨y2752, hy2752, hm⟩ := gx_bind hm
          refine Z_val (elemP p2076 ((0 : Int).toNat * 2)) (by kernel_rfl) (fun w_ M_ => (E_index (E := encWaiter) _ _ _ x2070.Waiting.length c2077 .i64 0 2 (y := y2752) rfl (by kernel_rfl) (by kernel_rfl) (by kernel_rfl) (h2078.mem0 M_) rfl hy2752)) ?_
          refine Z_val (elemP p2076 ((0 : Int).toNat * 2 + 1)) (by kernel_rfl) (fun w_ M_ => (E_fieldE (E := encWaiter) _ _ 1 ((0 : Int).toNat * 2) 1 rfl (by kernel_rfl) (by kernel_rfl) (h2078.mem0 M_) hy2752)) ?_
          refine Z_val (.int .i64 y2752.Priority) (by kernel_rfl) (fun w_ M_ => (E_loadE (E := encWaiter) _ _ false 1 0 1 ((0 : Int).toNat * 2 + 1) y2752 (.int .i64 y2752.Priority) rfl (by kernel_rfl) (by kernel_rfl) (by kernel_rfl) (h2078.mem0 M_) hy2752 rfl)) ?_
          refine Z_runs [.pointer (some ⟨b2080, 1, none⟩)] [(17, .bool false), (23, .int .i64 y2750.Priority), (29, .int .i64 y2751.Irq), (34, .int .i64 y2752.Priority), (35, .pointer (some ⟨b2080, 1, none⟩))] (fun w_ => by kernel_rfl) (by kernel_rfl) ?_
          refine Z_val (.slice p2076 x2070.Waiting.length c2077) (by kernel_rfl) (fun w_ M_ => (E_load (e := 85) (fr := (0, 0)) _ _ false 1 b2080 1 [.slice p2072 x2070.Slots.length c2073, .slice p2076 x2070.Waiting.length c2077] (.slice p2076 x2070.Waiting.length c2077) rfl (by kernel_rfl) (by kernel_rfl) (by kernel_rfl) (M_.blk 0 (b := b2080) (o := .cells ⟨[.slice p2072 x2070.Slots.length c2073, .slice p2076 x2070.Waiting.length c2077]⟩ 85 (0, 0)) (by kernel_rfl)))) ?_
          obtain ⟨y2753, hy2753, hm⟩ := gx_bind hm
          refine Z_val (elemP p2076 ((0 : Int).toNat * 2)) (by kernel_rfl) (fun w_ M_ => (E_index (E := encWaiter) _ _ _ x2070.Waiting.length c2077 .i64 0 2 (y := y2753) rfl (by kernel_rfl) (by kernel_rfl) (by kernel_rfl) (h2078.mem0 M_) rfl hy2753)) ?_
          refine Z_val (elemP p2076 ((0 : Int).toNat * 2 + 0)) (by kernel_rfl) (fun w_ M_ => (E_fieldE (E := encWaiter) _ _ 0 ((0 : Int).toNat * 2) 0 rfl (by kernel_rfl) (by kernel_rfl) (h2078.mem0 M_) hy2753)) ?_
          refine Z_val (.int .i64 y2753.Irq) (by kernel_rfl) (fun w_ M_ => (E_loadE (E := encWaiter) _ _ false 1 0 0 ((0 : Int).toNat * 2 + 0) y2753 (.int .i64 y2753.Irq) rfl (by kernel_rfl) (by kernel_rfl) (by kernel_rfl) (h2078.mem0 M_) hy2753 rfl)) ?_
          obtain ⟨r2754, hr2754, hm⟩ := gx_bind hm
          refine Z_call 171 #[.int .i64 y2750.Priority, .int .i64 y2751.Irq, .int .i64 y2752.Priority, .int .i64 y2753.Irq] (.bool r2754) (by kernel_rfl) (fun w_ => by kernel_rfl) (fun w_ M_ => (c_s_l8Less w_ y2750.Priority y2751.Irq y2752.Priority y2753.Irq hr2754).mono fun e w2_ h_ => ⟨h_.1, M_.call0 h_.2⟩) ?_
          refine Z_runs [.bool r2754, .bool r2754] [(2, .bool r2754)] (fun w_ => by kernel_rfl) (by kernel_rfl) ?_
          refine Z_end fun w2758 M2759 => ?_
          obtain rfl := Option.some.inj hm
          exact N_meet fun a ha => ⟨M2759.pick [] (by kernel_rfl), ha.sub (by kernel_rfl)⟩
      · intro a2762 w2760 ⟨M2761, hS2763⟩
        refine N_use hS2763 ?_
        have hm := hm2746
        refine N_then ?_
        refine G_ret ?_
        obtain rfl := Option.some.inj hm
        refine N_ret [.bool o2744] (RVs_cons (RV_tmp (by kernel_rfl)) RVs_nil) ?_
        exact ⟨rfl, M2761.pick [] (by kernel_rfl)⟩
theorem c_s_l9Good (w : World) (x1331 : Queue) (p1333 : Option Addr) (c1334 : Nat) (h1335 : rdS encSlot w x1331.Slots p1333 c1334) (p1337 : Option Addr) (c1338 : Nat) (h1339 : rdS encWaiter w x1331.Waiting p1337 c1338) {r : Bool} (hm : M.s_l9Good x1331 = some r) :
    Calls Tryz.prog 154 #[.agg #[.slice p1333 x1331.Slots.length c1334, .slice p1337 x1331.Waiting.length c1338]] w fun e w' => e = .returned (.bool r) ∧ Mem [] w w' [] := by
  unfold M.s_l9Good at hm
  refine C_enter Tryz.func154 rfl (by kernel_rfl) ?_
  have M0 := Mem.refl [] w
  refine G_seq ?_
  refine G_region ?_
  refine W_new (fun b => .pointer (some ⟨b, 0, none⟩)) (.cells ⟨[.slice p1333 x1331.Slots.length c1334, .slice p1337 x1331.Waiting.length c1338]⟩ 85 (0, 0)) M0 rfl (by kernel_rfl) (by kernel_rfl) ?_
  intro b1341 w1342 M1343
  refine W_run 1 [(1, .pointer (some ⟨b1341, 0, none⟩))] w1342 (by kernel_rfl) ?_
  refine W_nil ?_
  refine N_then ?_
  refine G_seq ?_
  obtain ⟨o2768, ho2769, hm2770⟩ := gx_bind hm
  refine G_meet (fun a w' => Mem [] w w' [] ∧ Sat Tryz.f154.ntmps [(2, .bool o2768)] a) ?_ ?_
  · have hm := ho2769
    refine G_region ?_
    refine W_run 1 [(1, .pointer (some ⟨b1341, 0, none⟩)), (3, .pointer (some ⟨b1341, 0, none⟩))] w1342 (by kernel_rfl) ?_
    refine W_val (.slice p1333 x1331.Slots.length c1334) w1342 (by kernel_rfl) (E_load (e := 85) (fr := (0, 0)) _ _ false 1 b1341 0 [.slice p1333 x1331.Slots.length c1334, .slice p1337 x1331.Waiting.length c1338] (.slice p1333 x1331.Slots.length c1334) rfl (by kernel_rfl) (by kernel_rfl) (by kernel_rfl) (M1343.blk 0 (b := b1341) (o := .cells ⟨[.slice p1333 x1331.Slots.length c1334, .slice p1337 x1331.Waiting.length c1338]⟩ 85 (0, 0)) (by kernel_rfl))) ?_
    refine W_run 1 [(1, .pointer (some ⟨b1341, 0, none⟩)), (4, .slice p1333 x1331.Slots.length c1334), (5, .pointer (some ⟨b1341, 1, none⟩))] w1342 (by kernel_rfl) ?_
    refine W_val (.slice p1337 x1331.Waiting.length c1338) w1342 (by kernel_rfl) (E_load (e := 85) (fr := (0, 0)) _ _ false 1 b1341 1 [.slice p1333 x1331.Slots.length c1334, .slice p1337 x1331.Waiting.length c1338] (.slice p1337 x1331.Waiting.length c1338) rfl (by kernel_rfl) (by kernel_rfl) (by kernel_rfl) (M1343.blk 0 (b := b1341) (o := .cells ⟨[.slice p1333 x1331.Slots.length c1334, .slice p1337 x1331.Waiting.length c1338]⟩ 85 (0, 0)) (by kernel_rfl))) ?_
    obtain ⟨r2771, hr2771, hm⟩ := gx_bind hm
    refine W_call 189 #[.slice p1333 x1331.Slots.length c1334, .slice p1337 x1331.Waiting.length c1338] (by kernel_rfl) (by kernel_rfl) ?_
    refine (c_s_l9Waiting w1342 x1331.Slots p1333 c1334 (h1335.mem0 M1343) x1331.Waiting p1337 c1338 (h1339.mem0 M1343) hr2771).mono ?_
    rintro e_ w2772 ⟨rfl, K2773⟩
    have M2774 := M1343.call0 K2773
    refine ⟨_, rfl, ?_⟩
    refine W_run 1 [(1, .pointer (some ⟨b1341, 0, none⟩)), (8, .bool r2771)] w2772 (by kernel_rfl) ?_
    rcases gx_bif hm with ⟨hc2775, hm⟩ | ⟨hc2775, hm⟩
    · refine W_known 8 true (by kernel_rfl) hc2775 ?_
      refine W_val (.agg #[.slice p1333 x1331.Slots.length c1334, .slice p1337 x1331.Waiting.length c1338]) w2772 (by kernel_rfl) (E_load (e := 85) (fr := (0, 0)) _ _ true 2 b1341 0 [.slice p1333 x1331.Slots.length c1334, .slice p1337 x1331.Waiting.length c1338] (.agg #[.slice p1333 x1331.Slots.length c1334, .slice p1337 x1331.Waiting.length c1338]) rfl (by kernel_rfl) (by kernel_rfl) (by kernel_rfl) (M2774.blk 0 (b := b1341) (o := .cells ⟨[.slice p1333 x1331.Slots.length c1334, .slice p1337 x1331.Waiting.length c1338]⟩ 85 (0, 0)) (by kernel_rfl))) ?_
      obtain ⟨r2776, hr2776, hm⟩ := gx_bind hm
      refine W_call 190 #[.agg #[.slice p1333 x1331.Slots.length c1334, .slice p1337 x1331.Waiting.length c1338]] (by kernel_rfl) (by kernel_rfl) ?_
      refine (c_s_l9Settled w2772 x1331 p1333 c1334 (h1335.mem0 M2774) p1337 c1338 (h1339.mem0 M2774) hr2776).mono ?_
      rintro e_ w2777 ⟨rfl, K2778⟩
      have M2779 := M2774.call0 K2778
      refine ⟨_, rfl, ?_⟩
      refine W_run 2 [(2, .bool r2776)] w2777 (by kernel_rfl) ?_
      refine W_nil ?_
      obtain rfl := Option.some.inj hm
      exact N_meet fun a ha => ⟨M2779.pick [] (by kernel_rfl), ha.sub (by kernel_rfl)⟩
    · refine W_known 8 false (by kernel_rfl) hc2775 ?_
      refine W_run 4 [(2, .bool false)] w2772 (by kernel_rfl) ?_
      refine W_nil ?_
      obtain rfl := Option.some.inj hm
      exact N_meet fun a ha => ⟨M2774.pick [] (by kernel_rfl), ha.sub (by kernel_rfl)⟩
  · intro a2782 w2780 ⟨M2781, hS2783⟩
    refine N_use hS2783 ?_
    have hm := hm2770
    refine N_then ?_
    refine G_ret ?_
    obtain rfl := Option.some.inj hm
    refine N_ret [.bool o2768] (RVs_cons (RV_tmp (by kernel_rfl)) RVs_nil) ?_
    exact ⟨rfl, M2781.pick [] (by kernel_rfl)⟩
theorem c_s_l1Put (w : World) (x2838 : List Int) (p2840 : Option Addr) (c2841 : Nat) (sg2842 : Seg) (ho2843 : ownS Gx.encI x2838 p2840 c2841 sg2842) (x2844 : Int) (hA : ∀ q ∈ List.flatten [sg2842], w.heap[q.1]? = some q.2) (hN : (idsOf [sg2842]).Nodup) {r : (List Int)} (hm : M.s_l1Put x2838 x2844 = some r) :
    Calls Tryz.prog 191 #[.slice p2840 x2838.length c2841, .int .i64 x2844] w fun e w' => ∃ (p2846 : Option Addr) (c2847 : Nat) (sg2848 : Seg), e = .returned (.slice p2846 r.length c2847) ∧ ownS Gx.encI r p2846 c2847 sg2848 ∧ Mem (idsOf [sg2842]) w w' [sg2848] := by
  unfold M.s_l1Put at hm
  refine C_enter Tryz.func191 rfl (by kernel_rfl) ?_
  have M0 := Mem.start' w [sg2842] hA hN
  refine G_seq ?_
  refine G_region ?_
  refine W_run 1 [(0, .slice p2840 x2838.length c2841), (1, .int .i64 x2844)] w (by kernel_rfl) ?_
  refine W_nil ?_
  refine N_then ?_
  refine G_seq ?_
  refine G_region ?_
  refine W_run 1 [(0, .slice p2840 x2838.length c2841), (1, .int .i64 x2844), (5, .int .i64 0)] w (by kernel_rfl) ?_
  refine W_nil ?_
  refine N_then ?_
  refine G_seq ?_
  obtain ⟨out2881, hw2882, hmo2883⟩ := gx_bind hm
  refine G_meet (fun a w' => Mem (idsOf [sg2842]) w w' [sg2842] ∧ Sat Tryz.f191.ntmps [(0, .slice p2840 x2838.length c2841), (1, .int .i64 x2844), (5, .int .i64 out2881)] a) ?_ ?_
  · refine G_block ?_
    refine G_while (σ := Int) (ρ := Int) (fun s2874 a w' => Mem (idsOf [sg2842]) w w' [sg2842] ∧ Sat Tryz.f191.ntmps [(0, .slice p2840 x2838.length c2841), (1, .int .i64 x2844), (5, .int .i64 s2874)] a) hw2882 (fun a ha => ⟨M0.pick [0] (by kernel_rfl), ha.sub (by kernel_rfl)⟩) ?_
    clear hm
    intro s2874 x2875 hm hout2876 a2877 w2878 ⟨M2879, hS2880⟩
    refine G_use hS2880 ?_
    refine G_seq ?_
    refine G_seq ?_
    obtain ⟨o2887, ho2888, hm2889⟩ := gx_bind hm
    refine G_meet (fun a w' => Mem (idsOf [sg2842]) w w' [sg2842] ∧ Sat Tryz.f191.ntmps [(0, .slice p2840 x2838.length c2841), (1, .int .i64 x2844), (5, .int .i64 s2874), (17, .bool o2887)] a) ?_ ?_
    · have hm := ho2888
      refine G_region ?_
      refine W_run 5 [(0, .slice p2840 x2838.length c2841), (1, .int .i64 x2844), (5, .int .i64 s2874), (10, .bool (decide (s2874 < (x2838.length : Int))))] w2878 (by kernel_rfl) ?_
      rcases gx_bif hm with ⟨hc2890, hm⟩ | ⟨hc2890, hm⟩
      · refine W_known 10 true (by kernel_rfl) hc2890 ?_
        refine W_run 2 [(0, .slice p2840 x2838.length c2841), (1, .int .i64 x2844), (5, .int .i64 s2874), (10, .bool true), (11, .slice p2840 x2838.length c2841), (12, .int .i64 s2874)] w2878 (by kernel_rfl) ?_
        obtain ⟨y2891, hy2891, hm⟩ := gx_bind hm
        refine W_val (elemP p2840 (s2874.toNat * 1)) w2878 (by kernel_rfl) (E_index (E := Gx.encI) _ _ _ x2838.length c2841 .i64 s2874 1 (y := y2891) rfl (by kernel_rfl) (by kernel_rfl) (by kernel_rfl) (ho2843.rd M2879 0 (by kernel_rfl)) rfl hy2891) ?_
        refine W_val (.int .i64 y2891) w2878 (by kernel_rfl) (E_loadE (E := Gx.encI) _ _ false 1 s2874 0 (s2874.toNat * 1) y2891 (.int .i64 y2891) rfl (by kernel_rfl) (by kernel_rfl) (by kernel_rfl) (ho2843.rd M2879 0 (by kernel_rfl)) hy2891 rfl) ?_
        refine W_run 3 [(0, .slice p2840 x2838.length c2841), (1, .int .i64 x2844), (5, .int .i64 s2874), (17, .bool (decide (y2891 < x2844)))] w2878 (by kernel_rfl) ?_
        refine W_nil ?_
        obtain rfl := Option.some.inj hm
        exact N_meet fun a ha => ⟨M2879.pick [0] (by kernel_rfl), ha.sub (by kernel_rfl)⟩
      · refine W_known 10 false (by kernel_rfl) hc2890 ?_
        refine W_run 7 [(0, .slice p2840 x2838.length c2841), (1, .int .i64 x2844), (5, .int .i64 s2874), (17, .bool false)] w2878 (by kernel_rfl) ?_
        refine W_nil ?_
        obtain rfl := Option.some.inj hm
        exact N_meet fun a ha => ⟨M2879.pick [0] (by kernel_rfl), ha.sub (by kernel_rfl)⟩
    · intro a2894 w2892 ⟨M2893, hS2895⟩
      refine N_use hS2895 ?_
      have hm := hm2889
      refine N_then ?_
      rcases gx_bif hm with ⟨hc2896, hm⟩ | ⟨hc2896, hm⟩
      · refine G_cond_t (b := o2887) hc2896 (by kernel_rfl) ?_
        refine G_skip ?_
        refine N_then ?_
        refine G_block ?_
        refine G_region ?_
        refine W_run 3 [(0, .slice p2840 x2838.length c2841), (1, .int .i64 x2844), (5, .int .i64 (w64 (s2874 + 1)))] w2892 (by kernel_rfl) ?_
        refine W_nil ?_
        refine N_block ?_
        obtain rfl := Option.some.inj hm
        exact N_loop fun a ha => ⟨_, rfl, M2893.pick [0] (by kernel_rfl), ha.sub (by kernel_rfl)⟩
      · refine G_cond_f (b := o2887) hc2896 (by kernel_rfl) ?_
        refine G_exit ?_
        refine N_then_exit ?_
        refine N_then_exit ?_
        refine N_block_eq ?_
        obtain rfl := Option.some.inj hm
        obtain rfl := hout2876 _ rfl
        exact N_meet fun a ha => ⟨M2893.pick [0] (by kernel_rfl), ha.sub (by kernel_rfl)⟩
  · intro a2897 w2898 ⟨M2899, hS2900⟩
    refine N_use hS2900 ?_
    have hm := hmo2883
    refine N_then ?_
    refine G_seq ?_
    refine G_seq ?_
    obtain ⟨o2903, ho2904, hm2905⟩ := gx_bind hm
    refine G_meet (fun a w' => Mem (idsOf [sg2842]) w w' [sg2842] ∧ Sat Tryz.f191.ntmps [(0, .slice p2840 x2838.length c2841), (1, .int .i64 x2844), (5, .int .i64 out2881), (31, .bool o2903)] a) ?_ ?_
    · have hm := ho2904
      refine G_region ?_
      refine W_run 5 [(0, .slice p2840 x2838.length c2841), (1, .int .i64 x2844), (5, .int .i64 out2881), (24, .bool (decide (out2881 < (x2838.length : Int))))] w2898 (by kernel_rfl) ?_
      rcases gx_bif hm with ⟨hc2906, hm⟩ | ⟨hc2906, hm⟩
      · refine W_known 24 true (by kernel_rfl) hc2906 ?_
        refine W_run 2 [(0, .slice p2840 x2838.length c2841), (1, .int .i64 x2844), (5, .int .i64 out2881), (24, .bool true), (25, .slice p2840 x2838.length c2841), (26, .int .i64 out2881)] w2898 (by kernel_rfl) ?_
        obtain ⟨y2907, hy2907, hm⟩ := gx_bind hm
        refine W_val (elemP p2840 (out2881.toNat * 1)) w2898 (by kernel_rfl) (E_index (E := Gx.encI) _ _ _ x2838.length c2841 .i64 out2881 1 (y := y2907) rfl (by kernel_rfl) (by kernel_rfl) (by kernel_rfl) (ho2843.rd M2899 0 (by kernel_rfl)) rfl hy2907) ?_
        refine W_val (.int .i64 y2907) w2898 (by kernel_rfl) (E_loadE (E := Gx.encI) _ _ false 1 out2881 0 (out2881.toNat * 1) y2907 (.int .i64 y2907) rfl (by kernel_rfl) (by kernel_rfl) (by kernel_rfl) (ho2843.rd M2899 0 (by kernel_rfl)) hy2907 rfl) ?_
        refine W_run 3 [(0, .slice p2840 x2838.length c2841), (1, .int .i64 x2844), (5, .int .i64 out2881), (31, .bool (y2907 == x2844))] w2898 (by kernel_rfl) ?_
        refine W_nil ?_
        obtain rfl := Option.some.inj hm
        exact N_meet fun a ha => ⟨M2899.pick [0] (by kernel_rfl), ha.sub (by kernel_rfl)⟩
      · refine W_known 24 false (by kernel_rfl) hc2906 ?_
        refine W_run 7 [(0, .slice p2840 x2838.length c2841), (1, .int .i64 x2844), (5, .int .i64 out2881), (31, .bool false)] w2898 (by kernel_rfl) ?_
        refine W_nil ?_
        obtain rfl := Option.some.inj hm
        exact N_meet fun a ha => ⟨M2899.pick [0] (by kernel_rfl), ha.sub (by kernel_rfl)⟩
    · intro a2910 w2908 ⟨M2909, hS2911⟩
      refine N_use hS2911 ?_
      have hm := hm2905
      refine N_then ?_
      rcases gx_bif hm with ⟨hc2912, hm⟩ | ⟨hc2912, hm⟩
      · refine G_cond_t (b := o2903) hc2912 (by kernel_rfl) ?_
        refine G_seq ?_
        refine G_region ?_
        refine W_run 2 [(4, .slice p2840 x2838.length c2841)] w2908 (by kernel_rfl) ?_
        refine W_nil ?_
        refine N_then ?_
        refine G_ret ?_
        refine N_then_ret ?_
        obtain rfl := Option.some.inj hm
        refine N_ret [.slice p2840 x2838.length c2841] (RVs_cons (RV_tmp (by kernel_rfl)) RVs_nil) ?_
        exact ⟨p2840, c2841, sg2842, rfl, ho2843, M2909.pick [0] (by kernel_rfl)⟩
      · refine G_cond_f (b := o2903) hc2912 (by kernel_rfl) ?_
        refine G_skip ?_
        refine N_then ?_
        refine G_seq ?_
        obtain ⟨ys2920, hys2920, hm⟩ := gx_bind hm
        obtain ⟨ap2922, hap2922, hm⟩ := gx_bind hm
        obtain ⟨ap2933, hap2933, hm⟩ := gx_bind hm
        obtain ⟨ys2939, hys2939, hm⟩ := gx_bind hm
        refine G_sub [(0, .slice p2840 x2838.length c2841), (1, .int .i64 x2844), (5, .int .i64 out2881), (31, .bool o2903)] (by kernel_rfl) ?_
        refine G_dagL 11 [[], [], [], [1, 2], [0, 3], [], [5], [4, 6], [], [], [8, 9]] [[], [], [], [], [0], [], [], [4], [], [], []] [[], [], [], [], [], [], [], [6], [], [], []] [[], [], [], [], [], [], [], [], [], [], []] [[], [], [], [], [], [], [], [], [], [], []] [[], [], [], [], [], [], [], [], [], [], []] (fun _ => []) (fun i => ([fun f v s => ∃ (p2916 : Option Addr) (c2917 : Nat), v = (.slice p2916 ([] : List Int).length c2917 : Value) ∧ ownS Gx.encI ([] : List Int) p2916 c2917 s, fun f v s => v = (.slice p2840 x2838.length c2841 : Value) ∧ s = [], fun f v s => v = (.int .i64 out2881 : Value) ∧ s = [], fun f v s => v = (.slice (subP p2840 (0 : Int).toNat c2841 1) ys2920.length (c2841 - (0 : Int).toNat) : Value) ∧ s = [], fun f v s => ∃ (p2924 : Option Addr) (c2925 : Nat), v = (.slice p2924 ap2922.length c2925 : Value) ∧ ownS Gx.encI ap2922 p2924 c2925 s, fun f v s => v = (.int .i64 x2844 : Value) ∧ s = [], fun f v s => ∃ (p2929 : Option Addr) (c2930 : Nat), v = (.slice p2929 [x2844].length c2930 : Value) ∧ ownS Gx.encI [x2844] p2929 c2930 s, fun f v s => ∃ (p2935 : Option Addr) (c2936 : Nat), v = (.slice p2935 ap2933.length c2936 : Value) ∧ ownS Gx.encI ap2933 p2935 c2936 s, fun f v s => v = (.slice p2840 x2838.length c2841 : Value) ∧ s = [], fun f v s => v = (.int .i64 out2881 : Value) ∧ s = [], fun f v s => v = (.slice (subP p2840 out2881.toNat c2841 1) ys2939.length (c2841 - out2881.toNat) : Value) ∧ s = []] : List ((Nat → Value) → Value → Seg → Prop)).getD i (fun _ _ _ => False)) (fun j f v => ∃ s, (fun i => ([fun f v s => ∃ (p2916 : Option Addr) (c2917 : Nat), v = (.slice p2916 ([] : List Int).length c2917 : Value) ∧ ownS Gx.encI ([] : List Int) p2916 c2917 s, fun f v s => v = (.slice p2840 x2838.length c2841 : Value) ∧ s = [], fun f v s => v = (.int .i64 out2881 : Value) ∧ s = [], fun f v s => v = (.slice (subP p2840 (0 : Int).toNat c2841 1) ys2920.length (c2841 - (0 : Int).toNat) : Value) ∧ s = [], fun f v s => ∃ (p2924 : Option Addr) (c2925 : Nat), v = (.slice p2924 ap2922.length c2925 : Value) ∧ ownS Gx.encI ap2922 p2924 c2925 s, fun f v s => v = (.int .i64 x2844 : Value) ∧ s = [], fun f v s => ∃ (p2929 : Option Addr) (c2930 : Nat), v = (.slice p2929 [x2844].length c2930 : Value) ∧ ownS Gx.encI [x2844] p2929 c2930 s, fun f v s => ∃ (p2935 : Option Addr) (c2936 : Nat), v = (.slice p2935 ap2933.length c2936 : Value) ∧ ownS Gx.encI ap2933 p2935 c2936 s, fun f v s => v = (.slice p2840 x2838.length c2841 : Value) ∧ s = [], fun f v s => v = (.int .i64 out2881 : Value) ∧ s = [], fun f v s => v = (.slice (subP p2840 out2881.toNat c2841 1) ys2939.length (c2841 - out2881.toNat) : Value) ∧ s = []] : List ((Nat → Value) → Value → Seg → Prop)).getD i (fun _ _ _ => False)) j f v s) [] [6, 7, 10] [6, 7] (fun _ _ _ s h => ⟨s, h⟩) (by kernel_rfl) (by kernel_rfl) (M2909.preNil 11) (by kernel_rfl) (by kernel_rfl) (by kernel_rfl) (by kernel_rfl) (allOb_cons ?_ (allOb_cons ?_ (allOb_cons ?_ (allOb_cons ?_ (allOb_cons ?_ (allOb_cons ?_ (allOb_cons ?_ (allOb_cons ?_ (allOb_cons ?_ (allOb_cons ?_ (allOb_cons ?_ allOb_nil))))))))))) ?_
        · intro g2913 f2914
          intro R w2941 M2942
          refine W_lit (E := Gx.encI) ([] : List Int) 0 [] 3 M2942 (by kernel_rfl) (by kernel_rfl) (by kernel_rfl) (by kernel_rfl) (by kernel_rfl) ?_
          intro p2916 c2917 sg2918 w2943 ho2919 M2944
          exact W_nil (ob_end (.slice p2916 ([] : List Int).length c2917) sg2918 rfl (by kernel_rfl) ⟨p2916, c2917, rfl, ho2919⟩ (Mem.mid M2944))
        · intro g2913 f2914
          intro R w2945 M2946
          refine W_run 1 [(34, .slice p2840 x2838.length c2841)] w2945 (by kernel_rfl) ?_
          exact W_nil (ob_end (.slice p2840 x2838.length c2841) [] rfl (by kernel_rfl) ⟨by kernel_rfl, rfl⟩ M2946)
        · intro g2913 f2914
          intro R w2949 M2950
          refine W_run 1 [(35, .int .i64 out2881)] w2949 (by kernel_rfl) ?_
          exact W_nil (ob_end (.int .i64 out2881) [] rfl (by kernel_rfl) ⟨by kernel_rfl, rfl⟩ M2950)
        · intro g2913 f2914
          intro v1_ hb1_
          obtain ⟨rfl, _⟩ := hb1_
          intro v2_ hb2_
          obtain ⟨rfl, _⟩ := hb2_
          intro R w2953 M2954
          refine W_val (.slice (subP p2840 (0 : Int).toNat c2841 1) ys2920.length (c2841 - (0 : Int).toNat)) w2953 (by kernel_rfl) (E_slice (E := Gx.encI) _ _ _ _ x2838.length 0 out2881 rfl (by kernel_rfl) (Or.inl ⟨rfl, rfl⟩) (Or.inr ⟨_, rfl, by kernel_rfl⟩) (by kernel_rfl) (ho2843.rd M2954 0 (by kernel_rfl)) rfl hys2920) ?_
          exact W_nil (ob_end (.slice (subP p2840 (0 : Int).toNat c2841 1) ys2920.length (c2841 - (0 : Int).toNat)) [] rfl (by kernel_rfl) ⟨by kernel_rfl, rfl⟩ M2954)
        · intro g2913 f2914
          intro v0_ hb0_
          obtain ⟨p2916, c2917, rfl, ho2919⟩ := hb0_
          intro v3_ hb3_
          obtain ⟨rfl, _⟩ := hb3_
          intro R w2957 M2958
          refine W_append (E := Gx.encI) _ _ _ 8 [.int .i64 0] 2 (c2841 - (0 : Int).toNat) M2958 ho2919 (by kernel_rfl) (by kernel_rfl) (by kernel_rfl) rfl (by kernel_rfl) (by kernel_rfl) (by kernel_rfl) (by kernel_rfl) (by kernel_rfl) (by kernel_rfl) ((ho2843.rd M2958 0 (by kernel_rfl)).sliceM hys2920) hap2922 ?_
          intro p2924 c2925 sg2926 w2959 ho2927 M2960
          exact W_nil (ob_end (.slice p2924 ap2922.length c2925) sg2926 rfl (by kernel_rfl) ⟨p2924, c2925, rfl, ho2927⟩ (Mem.takeOver M2960))
        · intro g2913 f2914
          intro R w2961 M2962
          refine W_run 1 [(38, .int .i64 x2844)] w2961 (by kernel_rfl) ?_
          exact W_nil (ob_end (.int .i64 x2844) [] rfl (by kernel_rfl) ⟨by kernel_rfl, rfl⟩ M2962)
        · intro g2913 f2914
          intro v5_ hb5_
          obtain ⟨rfl, _⟩ := hb5_
          intro R w2965 M2966
          refine W_lit (E := Gx.encI) [x2844] 1 [.int .i64 x2844] 3 M2966 (by kernel_rfl) (by kernel_rfl) (by kernel_rfl) (by kernel_rfl) (by kernel_rfl) ?_
          intro p2929 c2930 sg2931 w2967 ho2932 M2968
          exact W_nil (ob_end (.slice p2929 [x2844].length c2930) sg2931 rfl (by kernel_rfl) ⟨p2929, c2930, rfl, ho2932⟩ (Mem.mid M2968))
        · intro g2913 f2914
          intro v4_ hb4_
          obtain ⟨p2924, c2925, rfl, ho2927⟩ := hb4_
          intro v6_ hb6_
          obtain ⟨p2929, c2930, rfl, ho2932⟩ := hb6_
          intro R w2969 M2970
          refine W_append (E := Gx.encI) _ _ _ 8 [.int .i64 0] 2 c2930 M2970 ho2927 (by kernel_rfl) (by kernel_rfl) (by kernel_rfl) rfl (by kernel_rfl) (by kernel_rfl) (by kernel_rfl) (by kernel_rfl) (by kernel_rfl) (by kernel_rfl) (ho2932.rd M2970 3 (by kernel_rfl)) hap2933 ?_
          intro p2935 c2936 sg2937 w2971 ho2938 M2972
          exact W_nil (ob_end (.slice p2935 ap2933.length c2936) sg2937 rfl (by kernel_rfl) ⟨p2935, c2936, rfl, ho2938⟩ (Mem.takeOver M2972))
        · intro g2913 f2914
          intro R w2973 M2974
          refine W_run 1 [(41, .slice p2840 x2838.length c2841)] w2973 (by kernel_rfl) ?_
          exact W_nil (ob_end (.slice p2840 x2838.length c2841) [] rfl (by kernel_rfl) ⟨by kernel_rfl, rfl⟩ M2974)
        · intro g2913 f2914
          intro R w2977 M2978
          refine W_run 1 [(42, .int .i64 out2881)] w2977 (by kernel_rfl) ?_
          exact W_nil (ob_end (.int .i64 out2881) [] rfl (by kernel_rfl) ⟨by kernel_rfl, rfl⟩ M2978)
        · intro g2913 f2914
          intro v8_ hb8_
          obtain ⟨rfl, _⟩ := hb8_
          intro v9_ hb9_
          obtain ⟨rfl, _⟩ := hb9_
          intro R w2981 M2982
          refine W_val (.slice (subP p2840 out2881.toNat c2841 1) ys2939.length (c2841 - out2881.toNat)) w2981 (by kernel_rfl) (E_slice (E := Gx.encI) _ _ _ _ x2838.length out2881 (x2838.length : Int) rfl (by kernel_rfl) (Or.inr ⟨_, rfl, by kernel_rfl⟩) (Or.inl ⟨rfl, rfl⟩) (by kernel_rfl) (ho2843.rd M2982 0 (by kernel_rfl)) rfl hys2939) ?_
          exact W_nil (ob_end (.slice (subP p2840 out2881.toNat c2841 1) ys2939.length (c2841 - out2881.toNat)) [] rfl (by kernel_rfl) ⟨by kernel_rfl, rfl⟩ M2982)
        · intro g2913 f2914
          intro v6_ hb6_
          obtain ⟨p2929, c2930, rfl, ho2932⟩ := hb6_
          intro v7_ hb7_
          obtain ⟨p2935, c2936, rfl, ho2938⟩ := hb7_
          intro v10_ hb10_
          obtain ⟨rfl, _⟩ := hb10_
          intro w2985 M2986
          have M2987 : Mem (idsOf [sg2842]) w w2985 [sg2842, (g2913 6), (g2913 7)] := M2986
          obtain ⟨ap2988, hap2988, hm⟩ := gx_bind hm
          refine W_append (E := Gx.encI) _ _ _ 8 [.int .i64 0] 2 (c2841 - out2881.toNat) M2987 ho2938 (by kernel_rfl) (by kernel_rfl) (by kernel_rfl) rfl (by kernel_rfl) (by kernel_rfl) (by kernel_rfl) (by kernel_rfl) (by kernel_rfl) (by kernel_rfl) ((ho2843.rd M2987 0 (by kernel_rfl)).sliceM hys2939) hap2988 ?_
          intro p2989 c2990 sg2991 w2992 ho2993 M2994
          refine W_run 1 [(4, .slice p2989 ap2988.length c2990)] w2992 (by kernel_rfl) ?_
          refine W_nil ?_
          refine N_then ?_
          refine G_ret ?_
          obtain rfl := Option.some.inj hm
          refine N_ret [.slice p2989 ap2988.length c2990] (RVs_cons (RV_tmp (by kernel_rfl)) RVs_nil) ?_
          exact ⟨p2989, c2990, sg2991, rfl, ho2993, M2994.pick [2] (by kernel_rfl)⟩
theorem c_s_l8Active (w : World) (x2805 : List Slot) (p2807 : Option Addr) (c2808 : Nat) (h2809 : rdS encSlot w x2805 p2807 c2808) {r : (List Int)} (hm : M.s_l8Active x2805 = some r) :
    Calls Tryz.prog 155 #[.slice p2807 x2805.length c2808] w fun e w' => ∃ (p2811 : Option Addr) (c2812 : Nat) (sg2813 : Seg), e = .returned (.slice p2811 r.length c2812) ∧ ownS Gx.encI r p2811 c2812 sg2813 ∧ Mem [] w w' [sg2813] := by
  unfold M.s_l8Active at hm
  refine C_enter Tryz.func155 rfl (by kernel_rfl) ?_
  have M0 := Mem.refl [] w
  refine G_seq ?_
  refine G_region ?_
  refine W_run 1 [(0, .slice p2807 x2805.length c2808)] w (by kernel_rfl) ?_
  refine W_nil ?_
  refine N_then ?_
  refine G_seq ?_
  refine G_region ?_
  refine W_lit (E := Gx.encI) ([] : List Int) 0 [] 3 M0 (by kernel_rfl) (by kernel_rfl) (by kernel_rfl) (by kernel_rfl) (by kernel_rfl) ?_
  intro p2815 c2816 sg2817 w2818 ho2819 M2820
  refine W_run 1 [(0, .slice p2807 x2805.length c2808), (3, .slice p2815 ([] : List Int).length c2816)] w2818 (by kernel_rfl) ?_
  refine W_nil ?_
  refine N_then ?_
  refine G_seq ?_
  refine G_seq ?_
  refine G_region ?_
  refine W_run 1 [(0, .slice p2807 x2805.length c2808), (3, .slice p2815 ([] : List Int).length c2816), (4, .int .i64 0)] w2818 (by kernel_rfl) ?_
  refine W_nil ?_
  refine N_then ?_
  obtain ⟨out3088, hw3089, hmo3090⟩ := gx_bind hm
  refine G_meet (fun a w' => ∃ (p3097 : Option Addr), ∃ (c3098 : Nat), ∃ (sg3099 : Seg), ownS Gx.encI out3088 p3097 c3098 sg3099 ∧ Mem [] w w' [sg3099] ∧ Sat Tryz.f155.ntmps [(3, .slice p3097 out3088.length c3098)] a) ?_ ?_
  · refine G_block ?_
    refine G_while (σ := List Int × Int) (ρ := List Int) (fun s3081 a w' => ∃ (p3091 : Option Addr), ∃ (c3092 : Nat), ∃ (sg3093 : Seg), ownS Gx.encI s3081.1 p3091 c3092 sg3093 ∧ Mem [] w w' [sg3093] ∧ Sat Tryz.f155.ntmps [(0, .slice p2807 x2805.length c2808), (3, .slice p3091 s3081.1.length c3092), (4, .int .i64 s3081.2)] a) hw3089 (fun a ha => ⟨p2815, c2816, sg2817, ho2819, M2820.pick [0] (by kernel_rfl), ha.sub (by kernel_rfl)⟩) ?_
    clear hm
    intro s3081 x3082 hm hout3083 a3084 w3085 ⟨p3091, c3092, sg3093, ho3094, M3086, hS3087⟩
    refine G_use hS3087 ?_
    refine G_seq ?_
    refine G_seq ?_
    refine G_region ?_
    refine W_run 4 [(0, .slice p2807 x2805.length c2808), (3, .slice p3091 s3081.1.length c3092), (4, .int .i64 s3081.2), (9, .bool (decide (s3081.2 < (x2805.length : Int))))] w3085 (by kernel_rfl) ?_
    refine W_nil ?_
    refine N_then ?_
    rcases gx_bif hm with ⟨hc3102, hm⟩ | ⟨hc3102, hm⟩
    · refine G_cond_t (b := (decide (s3081.2 < (x2805.length : Int)))) hc3102 (by kernel_rfl) ?_
      refine G_skip ?_
      refine N_then ?_
      refine G_seq ?_
      refine G_block ?_
      refine G_seq ?_
      obtain ⟨o3106, ho3107, hm3108⟩ := gx_bind hm
      refine G_meet (fun a w' => Mem [] w w' [sg3093] ∧ Sat Tryz.f155.ntmps [(0, .slice p2807 x2805.length c2808), (3, .slice p3091 s3081.1.length c3092), (4, .int .i64 s3081.2), (25, .bool o3106)] a) ?_ ?_
      · have hm := ho3107
        refine G_region ?_
        refine W_run 2 [(0, .slice p2807 x2805.length c2808), (3, .slice p3091 s3081.1.length c3092), (4, .int .i64 s3081.2), (12, .slice p2807 x2805.length c2808), (13, .int .i64 s3081.2)] w3085 (by kernel_rfl) ?_
        obtain ⟨y3109, hy3109, hm⟩ := gx_bind hm
        refine W_val (elemP p2807 (s3081.2.toNat * 3)) w3085 (by kernel_rfl) (E_index (E := encSlot) _ _ _ x2805.length c2808 .i64 s3081.2 3 (y := y3109) rfl (by kernel_rfl) (by kernel_rfl) (by kernel_rfl) (h2809.mem0 M3086) rfl hy3109) ?_
        refine W_val (elemP p2807 (s3081.2.toNat * 3 + 0)) w3085 (by kernel_rfl) (E_fieldE (E := encSlot) _ _ 0 (s3081.2.toNat * 3) 0 rfl (by kernel_rfl) (by kernel_rfl) (h2809.mem0 M3086) hy3109) ?_
        refine W_val (.int .i64 y3109.State) w3085 (by kernel_rfl) (E_loadE (E := encSlot) _ _ false 1 s3081.2 0 (s3081.2.toNat * 3 + 0) y3109 (.int .i64 y3109.State) rfl (by kernel_rfl) (by kernel_rfl) (by kernel_rfl) (h2809.mem0 M3086) hy3109 rfl) ?_
        refine W_run 2 [(0, .slice p2807 x2805.length c2808), (3, .slice p3091 s3081.1.length c3092), (4, .int .i64 s3081.2), (18, .bool (y3109.State == 2))] w3085 (by kernel_rfl) ?_
        rcases gx_bif hm with ⟨hc3110, hm⟩ | ⟨hc3110, hm⟩
        · refine W_known 18 true (by kernel_rfl) hc3110 ?_
          refine W_run 7 [(0, .slice p2807 x2805.length c2808), (3, .slice p3091 s3081.1.length c3092), (4, .int .i64 s3081.2), (25, .bool true)] w3085 (by kernel_rfl) ?_
          refine W_nil ?_
          obtain rfl := Option.some.inj hm
          exact N_meet fun a ha => ⟨M3086.pick [0] (by kernel_rfl), ha.sub (by kernel_rfl)⟩
        · refine W_known 18 false (by kernel_rfl) hc3110 ?_
          refine W_run 2 [(0, .slice p2807 x2805.length c2808), (3, .slice p3091 s3081.1.length c3092), (4, .int .i64 s3081.2), (18, .bool false), (19, .slice p2807 x2805.length c2808), (20, .int .i64 s3081.2)] w3085 (by kernel_rfl) ?_
          obtain ⟨y3111, hy3111, hm⟩ := gx_bind hm
          refine W_val (elemP p2807 (s3081.2.toNat * 3)) w3085 (by kernel_rfl) (E_index (E := encSlot) _ _ _ x2805.length c2808 .i64 s3081.2 3 (y := y3111) rfl (by kernel_rfl) (by kernel_rfl) (by kernel_rfl) (h2809.mem0 M3086) rfl hy3111) ?_
          refine W_val (elemP p2807 (s3081.2.toNat * 3 + 0)) w3085 (by kernel_rfl) (E_fieldE (E := encSlot) _ _ 0 (s3081.2.toNat * 3) 0 rfl (by kernel_rfl) (by kernel_rfl) (h2809.mem0 M3086) hy3111) ?_
          refine W_val (.int .i64 y3111.State) w3085 (by kernel_rfl) (E_loadE (E := encSlot) _ _ false 1 s3081.2 0 (s3081.2.toNat * 3 + 0) y3111 (.int .i64 y3111.State) rfl (by kernel_rfl) (by kernel_rfl) (by kernel_rfl) (h2809.mem0 M3086) hy3111 rfl) ?_
          refine W_run 2 [(0, .slice p2807 x2805.length c2808), (3, .slice p3091 s3081.1.length c3092), (4, .int .i64 s3081.2), (25, .bool (y3111.State == 3))] w3085 (by kernel_rfl) ?_
          refine W_nil ?_
          obtain rfl := Option.some.inj hm
          exact N_meet fun a ha => ⟨M3086.pick [0] (by kernel_rfl), ha.sub (by kernel_rfl)⟩
      · intro a3114 w3112 ⟨M3113, hS3115⟩
        refine N_use hS3115 ?_
        have hm := hm3108
        refine N_then ?_
        obtain ⟨o3127, ho3128, hm3129⟩ := gx_bind hm
        refine G_meet (fun a w' => ∃ (p3130 : Option Addr), ∃ (c3131 : Nat), ∃ (sg3132 : Seg), ownS Gx.encI o3127 p3130 c3131 sg3132 ∧ Mem [] w w' [sg3132] ∧ Sat Tryz.f155.ntmps [(0, .slice p2807 x2805.length c2808), (3, .slice p3130 o3127.length c3131), (4, .int .i64 s3081.2)] a) ?_ ?_
        · have hm := ho3128
          rcases gx_bif hm with ⟨hc3135, hm⟩ | ⟨hc3135, hm⟩
          · refine G_cond_t (b := o3106) hc3135 (by kernel_rfl) ?_
            refine G_region ?_
            refine W_run 3 [(0, .slice p2807 x2805.length c2808), (3, .slice p3091 s3081.1.length c3092), (4, .int .i64 s3081.2), (26, .slice p3091 s3081.1.length c3092), (27, .slice p2807 x2805.length c2808), (28, .int .i64 s3081.2)] w3112 (by kernel_rfl) ?_
            obtain ⟨y3136, hy3136, hm⟩ := gx_bind hm
            refine W_val (elemP p2807 (s3081.2.toNat * 3)) w3112 (by kernel_rfl) (E_index (E := encSlot) _ _ _ x2805.length c2808 .i64 s3081.2 3 (y := y3136) rfl (by kernel_rfl) (by kernel_rfl) (by kernel_rfl) (h2809.mem0 M3113) rfl hy3136) ?_
            refine W_val (elemP p2807 (s3081.2.toNat * 3 + 1)) w3112 (by kernel_rfl) (E_fieldE (E := encSlot) _ _ 1 (s3081.2.toNat * 3) 1 rfl (by kernel_rfl) (by kernel_rfl) (h2809.mem0 M3113) hy3136) ?_
            refine W_val (.int .i64 y3136.Irq) w3112 (by kernel_rfl) (E_loadE (E := encSlot) _ _ false 1 s3081.2 1 (s3081.2.toNat * 3 + 1) y3136 (.int .i64 y3136.Irq) rfl (by kernel_rfl) (by kernel_rfl) (by kernel_rfl) (h2809.mem0 M3113) hy3136 rfl) ?_
            obtain ⟨r3137, hr3137, hm⟩ := gx_bind hm
            refine W_call 191 #[.slice p3091 s3081.1.length c3092, .int .i64 y3136.Irq] (by kernel_rfl) (by kernel_rfl) ?_
            refine (c_s_l1Put w3112 s3081.1 p3091 c3092 sg3093 ho3094 y3136.Irq (M3113.hasPick [0]) (M3113.nodupPick [0] (by kernel_rfl)) hr3137).mono ?_
            rintro e_ w3143 ⟨p3139, c3140, sg3141, rfl, ho3142, K3144⟩
            have M3145 := M3113.callF' [0] [] (by kernel_rfl) K3144
            refine ⟨_, rfl, ?_⟩
            refine W_run 1 [(0, .slice p2807 x2805.length c2808), (3, .slice p3139 r3137.length c3140), (4, .int .i64 s3081.2)] w3143 (by kernel_rfl) ?_
            refine W_nil ?_
            obtain rfl := Option.some.inj hm
            exact N_meet fun a ha => ⟨p3139, c3140, sg3141, ho3142, M3145.pick [0] (by kernel_rfl), ha.sub (by kernel_rfl)⟩
          · refine G_cond_f (b := o3106) hc3135 (by kernel_rfl) ?_
            refine G_skip ?_
            obtain rfl := Option.some.inj hm
            exact N_meet fun a ha => ⟨p3091, c3092, sg3093, ho3094, M3113.pick [0] (by kernel_rfl), ha.sub (by kernel_rfl)⟩
        · intro a3148 w3146 ⟨p3130, c3131, sg3132, ho3133, M3147, hS3149⟩
          refine N_use hS3149 ?_
          have hm := hm3129
          refine N_block ?_
          refine N_then ?_
          refine G_region ?_
          refine W_run 3 [(0, .slice p2807 x2805.length c2808), (3, .slice p3130 o3127.length c3131), (4, .int .i64 (w64 (s3081.2 + 1)))] w3146 (by kernel_rfl) ?_
          refine W_nil ?_
          obtain rfl := Option.some.inj hm
          exact N_loop fun a ha => ⟨_, rfl, p3130, c3131, sg3132, ho3133, M3147.pick [0] (by kernel_rfl), ha.sub (by kernel_rfl)⟩
    · refine G_cond_f (b := (decide (s3081.2 < (x2805.length : Int)))) hc3102 (by kernel_rfl) ?_
      refine G_exit ?_
      refine N_then_exit ?_
      refine N_then_exit ?_
      refine N_block_eq ?_
      obtain rfl := Option.some.inj hm
      obtain rfl := hout3083 _ rfl
      exact N_meet fun a ha => ⟨p3091, c3092, sg3093, ho3094, M3086.pick [0] (by kernel_rfl), ha.sub (by kernel_rfl)⟩
  · intro a3150 w3151 ⟨p3097, c3098, sg3099, ho3100, M3152, hS3153⟩
    refine N_use hS3153 ?_
    have hm := hmo3090
    refine N_then ?_
    refine G_seq ?_
    refine G_region ?_
    refine W_run 2 [(2, .slice p3097 out3088.length c3098)] w3151 (by kernel_rfl) ?_
    refine W_nil ?_
    refine N_then ?_
    refine G_ret ?_
    obtain rfl := Option.some.inj hm
    refine N_ret [.slice p3097 out3088.length c3098] (RVs_cons (RV_tmp (by kernel_rfl)) RVs_nil) ?_
    exact ⟨p3097, c3098, sg3099, rfl, ho3100, M3152.pick [0] (by kernel_rfl)⟩
theorem c_s_l1Has (w : World) (x3165 : List Int) (p3167 : Option Addr) (c3168 : Nat) (h3169 : rdS Gx.encI w x3165 p3167 c3168) (x3170 : Int) {r : Bool} (hm : M.s_l1Has x3165 x3170 = some r) :
    Calls Tryz.prog 131 #[.slice p3167 x3165.length c3168, .int .i64 x3170] w fun e w' => e = .returned (.bool r) ∧ Mem [] w w' [] := by
  unfold M.s_l1Has at hm
  refine C_enter Tryz.func131 rfl (by kernel_rfl) ?_
  have M0 := Mem.refl [] w
  refine G_seq ?_
  refine G_region ?_
  refine W_run 1 [(0, .slice p3167 x3165.length c3168), (1, .int .i64 x3170)] w (by kernel_rfl) ?_
  refine W_nil ?_
  refine N_then ?_
  refine G_seq ?_
  refine G_seq ?_
  refine G_region ?_
  refine W_run 1 [(0, .slice p3167 x3165.length c3168), (1, .int .i64 x3170), (5, .int .i64 0)] w (by kernel_rfl) ?_
  refine W_nil ?_
  refine N_then ?_
  obtain ⟨out3184, hw3185, hmo3186⟩ := gx_bind hm
  refine G_meet (fun a w' => ∃ (o3187 : Unit), out3184 = .inl o3187 ∧ Mem [] w w' [] ∧ Sat Tryz.f131.ntmps [] a) ?_ ?_
  · refine G_block ?_
    refine G_while (σ := Int) (ρ := (Unit) ⊕ (Bool)) (fun s3177 a w' => Mem [] w w' [] ∧ Sat Tryz.f131.ntmps [(0, .slice p3167 x3165.length c3168), (1, .int .i64 x3170), (5, .int .i64 s3177)] a) hw3185 (fun a ha => ⟨M0.pick [] (by kernel_rfl), ha.sub (by kernel_rfl)⟩) ?_
    clear hm
    intro s3177 x3178 hm hout3179 a3180 w3181 ⟨M3182, hS3183⟩
    refine G_use hS3183 ?_
    refine G_seq ?_
    refine G_seq ?_
    refine G_region ?_
    refine W_run 4 [(0, .slice p3167 x3165.length c3168), (1, .int .i64 x3170), (5, .int .i64 s3177), (9, .bool (decide (s3177 < (x3165.length : Int))))] w3181 (by kernel_rfl) ?_
    refine W_nil ?_
    refine N_then ?_
    rcases gx_bif hm with ⟨hc3188, hm⟩ | ⟨hc3188, hm⟩
    · refine G_cond_t (b := (decide (s3177 < (x3165.length : Int)))) hc3188 (by kernel_rfl) ?_
      refine G_skip ?_
      refine N_then ?_
      refine G_seq ?_
      refine G_block ?_
      refine G_seq ?_
      refine G_region ?_
      refine W_run 2 [(0, .slice p3167 x3165.length c3168), (1, .int .i64 x3170), (5, .int .i64 s3177), (12, .slice p3167 x3165.length c3168), (13, .int .i64 s3177)] w3181 (by kernel_rfl) ?_
      obtain ⟨y3189, hy3189, hm⟩ := gx_bind hm
      refine W_val (elemP p3167 (s3177.toNat * 1)) w3181 (by kernel_rfl) (E_index (E := Gx.encI) _ _ _ x3165.length c3168 .i64 s3177 1 (y := y3189) rfl (by kernel_rfl) (by kernel_rfl) (by kernel_rfl) (h3169.mem0 M3182) rfl hy3189) ?_
      refine W_val (.int .i64 y3189) w3181 (by kernel_rfl) (E_loadE (E := Gx.encI) _ _ false 1 s3177 0 (s3177.toNat * 1) y3189 (.int .i64 y3189) rfl (by kernel_rfl) (by kernel_rfl) (by kernel_rfl) (h3169.mem0 M3182) hy3189 rfl) ?_
      refine W_run 2 [(0, .slice p3167 x3165.length c3168), (1, .int .i64 x3170), (5, .int .i64 s3177), (17, .bool (y3189 == x3170))] w3181 (by kernel_rfl) ?_
      refine W_nil ?_
      refine N_then ?_
      rcases gx_bif hm with ⟨hc3190, hm⟩ | ⟨hc3190, hm⟩
      · refine G_cond_t (b := (y3189 == x3170)) hc3190 (by kernel_rfl) ?_
        refine G_seq ?_
        refine G_region ?_
        refine W_run 1 [(4, .bool true)] w3181 (by kernel_rfl) ?_
        refine W_nil ?_
        refine N_then ?_
        refine G_ret ?_
        refine N_block_ret ?_
        refine N_then_ret ?_
        refine N_then_ret ?_
        obtain rfl := Option.some.inj hm
        obtain rfl := hout3179 _ rfl
        have hm := hmo3186; simp only [Sum.elim_inr] at hm
        refine N_block_ret ?_
        refine N_meet_ret ?_
        refine N_then_ret ?_
        obtain rfl := Option.some.inj hm
        refine N_ret [.bool true] (RVs_cons (RV_tmp (by kernel_rfl)) RVs_nil) ?_
        exact ⟨rfl, M3182.pick [] (by kernel_rfl)⟩
      · refine G_cond_f (b := (y3189 == x3170)) hc3190 (by kernel_rfl) ?_
        refine G_skip ?_
        refine N_block ?_
        refine N_then ?_
        refine G_region ?_
        refine W_run 3 [(0, .slice p3167 x3165.length c3168), (1, .int .i64 x3170), (5, .int .i64 (w64 (s3177 + 1)))] w3181 (by kernel_rfl) ?_
        refine W_nil ?_
        obtain rfl := Option.some.inj hm
        exact N_loop fun a ha => ⟨_, rfl, M3182.pick [] (by kernel_rfl), ha.sub (by kernel_rfl)⟩
    · refine G_cond_f (b := (decide (s3177 < (x3165.length : Int)))) hc3188 (by kernel_rfl) ?_
      refine G_exit ?_
      refine N_then_exit ?_
      refine N_then_exit ?_
      refine N_block_eq ?_
      obtain rfl := Option.some.inj hm
      obtain rfl := hout3179 _ rfl
      exact N_meet fun a ha => ⟨_, rfl, M3182.pick [] (by kernel_rfl), ha.sub (by kernel_rfl)⟩
  · intro a3191 w3192 ⟨o3187, hout_, M3193, hS3194⟩
    refine N_use hS3194 ?_
    subst hout_
    have hm := hmo3186; simp only [Sum.elim_inl] at hm
    refine N_then ?_
    refine G_seq ?_
    refine G_region ?_
    refine W_run 1 [(4, .bool false)] w3192 (by kernel_rfl) ?_
    refine W_nil ?_
    refine N_then ?_
    refine G_ret ?_
    obtain rfl := Option.some.inj hm
    refine N_ret [.bool false] (RVs_cons (RV_tmp (by kernel_rfl)) RVs_nil) ?_
    exact ⟨rfl, M3193.pick [] (by kernel_rfl)⟩
theorem c_s_l10Level (w : World) (x3238 : Queue) (p3240 : Option Addr) (c3241 : Nat) (h3242 : rdS encSlot w x3238.Slots p3240 c3241) (p3244 : Option Addr) (c3245 : Nat) (h3246 : rdS encWaiter w x3238.Waiting p3244 c3245) (x3247 : Int) {r : Int} (hm : M.s_l10Level x3238 x3247 = some r) :
    Calls Tryz.prog 156 #[.agg #[.slice p3240 x3238.Slots.length c3241, .slice p3244 x3238.Waiting.length c3245], .int .i64 x3247] w fun e w' => e = .returned (.int .i64 r) ∧ Mem [] w w' [] := by
  unfold M.s_l10Level at hm
  refine C_enter Tryz.func156 rfl (by kernel_rfl) ?_
  have M0 := Mem.refl [] w
  refine G_seq ?_
  refine G_region ?_
  refine W_new (fun b => .pointer (some ⟨b, 0, none⟩)) (.cells ⟨[.slice p3240 x3238.Slots.length c3241, .slice p3244 x3238.Waiting.length c3245]⟩ 85 (0, 0)) M0 rfl (by kernel_rfl) (by kernel_rfl) ?_
  intro b3249 w3250 M3251
  refine W_run 1 [(1, .int .i64 x3247), (2, .pointer (some ⟨b3249, 0, none⟩))] w3250 (by kernel_rfl) ?_
  refine W_nil ?_
  refine N_then ?_
  refine G_seq ?_
  refine G_quiet (by kernel_rfl) (by kernel_rfl) M3251 ?_
  refine Z_runs [.pointer (some ⟨b3249, 0, none⟩)] [(1, .int .i64 x3247), (2, .pointer (some ⟨b3249, 0, none⟩)), (5, .pointer (some ⟨b3249, 0, none⟩))] (fun w_ => by kernel_rfl) (by kernel_rfl) ?_
  refine Z_val (.slice p3240 x3238.Slots.length c3241) (by kernel_rfl) (fun w_ M_ => (E_load (e := 85) (fr := (0, 0)) _ _ false 1 b3249 0 [.slice p3240 x3238.Slots.length c3241, .slice p3244 x3238.Waiting.length c3245] (.slice p3240 x3238.Slots.length c3241) rfl (by kernel_rfl) (by kernel_rfl) (by kernel_rfl) (M_.blk 0 (b := b3249) (o := .cells ⟨[.slice p3240 x3238.Slots.length c3241, .slice p3244 x3238.Waiting.length c3245]⟩ 85 (0, 0)) (by kernel_rfl)))) ?_
  refine Z_runs [.pointer (some ⟨b3249, 0, none⟩)] [(1, .int .i64 x3247), (6, .slice p3240 x3238.Slots.length c3241), (7, .pointer (some ⟨b3249, 0, none⟩))] (fun w_ => by kernel_rfl) (by kernel_rfl) ?_
  refine Z_val (.slice p3240 x3238.Slots.length c3241) (by kernel_rfl) (fun w_ M_ => (E_load (e := 85) (fr := (0, 0)) _ _ false 1 b3249 0 [.slice p3240 x3238.Slots.length c3241, .slice p3244 x3238.Waiting.length c3245] (.slice p3240 x3238.Slots.length c3241) rfl (by kernel_rfl) (by kernel_rfl) (by kernel_rfl) (M_.blk 0 (b := b3249) (o := .cells ⟨[.slice p3240 x3238.Slots.length c3241, .slice p3244 x3238.Waiting.length c3245]⟩ 85 (0, 0)) (by kernel_rfl)))) ?_
  refine Z_runs [.int .i64 x3247] [(6, .slice p3240 x3238.Slots.length c3241), (8, .slice p3240 x3238.Slots.length c3241), (9, .int .i64 x3247)] (fun w_ => by kernel_rfl) (by kernel_rfl) ?_
  obtain ⟨r3252, hr3252, hm⟩ := gx_bind hm
  refine Z_call 192 #[.slice p3240 x3238.Slots.length c3241, .int .i64 x3247] (.int .i64 r3252) (by kernel_rfl) (fun w_ => by kernel_rfl) (fun w_ M_ => (c_s_l8Find w_ x3238.Slots p3240 c3241 (h3242.mem0 M_) x3247 hr3252).mono fun e w2_ h_ => ⟨h_.1, M_.call0 h_.2⟩) ?_
  obtain ⟨y3256, hy3256, hm⟩ := gx_bind hm
  refine Z_val (elemP p3240 (r3252.toNat * 3)) (by kernel_rfl) (fun w_ M_ => (E_index (E := encSlot) _ _ _ x3238.Slots.length c3241 .i64 r3252 3 (y := y3256) rfl (by kernel_rfl) (by kernel_rfl) (by kernel_rfl) (h3242.mem0 M_) rfl hy3256)) ?_
  refine Z_val (elemP p3240 (r3252.toNat * 3 + 2)) (by kernel_rfl) (fun w_ M_ => (E_fieldE (E := encSlot) _ _ 2 (r3252.toNat * 3) 2 rfl (by kernel_rfl) (by kernel_rfl) (h3242.mem0 M_) hy3256)) ?_
  refine Z_val (.int .i64 y3256.Priority) (by kernel_rfl) (fun w_ M_ => (E_loadE (E := encSlot) _ _ false 1 r3252 2 (r3252.toNat * 3 + 2) y3256 (.int .i64 y3256.Priority) rfl (by kernel_rfl) (by kernel_rfl) (by kernel_rfl) (h3242.mem0 M_) hy3256 rfl)) ?_
  refine Z_runs [.int .i64 y3256.Priority] [(4, .int .i64 y3256.Priority)] (fun w_ => by kernel_rfl) (by kernel_rfl) ?_
  refine Z_end fun w3257 M3258 => ?_
  refine N_then ?_
  refine G_ret ?_
  obtain rfl := Option.some.inj hm
  refine N_ret [.int .i64 y3256.Priority] (RVs_cons (RV_tmp (by kernel_rfl)) RVs_nil) ?_
  exact ⟨rfl, M3258.pick [] (by kernel_rfl)⟩
theorem c_s_l10Good (w : World) (x1309 : Interface) (p1311 : Option Addr) (c1312 : Nat) (h1313 : rdS Gx.encI w x1309.Stack p1311 c1312) (p1315 : Option Addr) (c1316 : Nat) (h1317 : rdS encSlot w x1309.Queue.Slots p1315 c1316) (p1319 : Option Addr) (c1320 : Nat) (h1321 : rdS encWaiter w x1309.Queue.Waiting p1319 c1320) {r : Bool} (hm : M.s_l10Good x1309 = some r) :
    Calls Tryz.prog 104 #[.agg #[.int .i64 x1309.Mask, .slice p1311 x1309.Stack.length c1312, .slice p1315 x1309.Queue.Slots.length c1316, .slice p1319 x1309.Queue.Waiting.length c1320]] w fun e w' => e = .returned (.bool r) ∧ Mem [] w w' [] := by
  unfold M.s_l10Good at hm
  refine C_enter Tryz.func104 rfl (by kernel_rfl) ?_
  have M0 := Mem.refl [] w
  refine G_seq ?_
  refine G_region ?_
  refine W_new (fun b => .pointer (some ⟨b, 0, none⟩)) (.cells ⟨[.int .i64 x1309.Mask, .slice p1311 x1309.Stack.length c1312, .slice p1315 x1309.Queue.Slots.length c1316, .slice p1319 x1309.Queue.Waiting.length c1320]⟩ 87 (0, 0)) M0 rfl (by kernel_rfl) (by kernel_rfl) ?_
  intro b1323 w1324 M1325
  refine W_run 1 [(1, .pointer (some ⟨b1323, 0, none⟩))] w1324 (by kernel_rfl) ?_
  refine W_nil ?_
  refine N_then ?_
  refine G_seq ?_
  refine G_seq ?_
  obtain ⟨o2788, ho2789, hm2790⟩ := gx_bind hm
  refine G_meet (fun a w' => Mem [] w w' [[(b1323, .cells ⟨[.int .i64 x1309.Mask, .slice p1311 x1309.Stack.length c1312, .slice p1315 x1309.Queue.Slots.length c1316, .slice p1319 x1309.Queue.Waiting.length c1320]⟩ 87 (0, 0))]] ∧ Sat Tryz.f104.ntmps [(1, .pointer (some ⟨b1323, 0, none⟩)), (14, .bool o2788)] a) ?_ ?_
  · have hm := ho2789
    refine G_region ?_
    refine W_run 1 [(1, .pointer (some ⟨b1323, 0, none⟩)), (5, .pointer (some ⟨b1323, 0, none⟩))] w1324 (by kernel_rfl) ?_
    refine W_val (.int .i64 x1309.Mask) w1324 (by kernel_rfl) (E_load (e := 87) (fr := (0, 0)) _ _ false 1 b1323 0 [.int .i64 x1309.Mask, .slice p1311 x1309.Stack.length c1312, .slice p1315 x1309.Queue.Slots.length c1316, .slice p1319 x1309.Queue.Waiting.length c1320] (.int .i64 x1309.Mask) rfl (by kernel_rfl) (by kernel_rfl) (by kernel_rfl) (M1325.blk 0 (b := b1323) (o := .cells ⟨[.int .i64 x1309.Mask, .slice p1311 x1309.Stack.length c1312, .slice p1315 x1309.Queue.Slots.length c1316, .slice p1319 x1309.Queue.Waiting.length c1320]⟩ 87 (0, 0)) (by kernel_rfl))) ?_
    obtain ⟨r2791, hr2791, hm⟩ := gx_bind hm
    refine W_call 124 #[.int .i64 x1309.Mask, .int .i64 0, .int .i64 16] (by kernel_rfl) (by kernel_rfl) ?_
    refine (c_s_l1In w1324 x1309.Mask 0 16 hr2791).mono ?_
    rintro e_ w2792 ⟨rfl, K2793⟩
    have M2794 := M1325.call0 K2793
    refine ⟨_, rfl, ?_⟩
    refine W_run 2 [(1, .pointer (some ⟨b1323, 0, none⟩)), (9, .bool (!r2791))] w2792 (by kernel_rfl) ?_
    rcases gx_bif hm with ⟨hc2795, hm⟩ | ⟨hc2795, hm⟩
    · refine W_known 9 true (by kernel_rfl) hc2795 ?_
      refine W_run 5 [(1, .pointer (some ⟨b1323, 0, none⟩)), (14, .bool true)] w2792 (by kernel_rfl) ?_
      refine W_nil ?_
      obtain rfl := Option.some.inj hm
      exact N_meet fun a ha => ⟨M2794.pick [0] (by kernel_rfl), ha.sub (by kernel_rfl)⟩
    · refine W_known 9 false (by kernel_rfl) hc2795 ?_
      refine W_run 1 [(1, .pointer (some ⟨b1323, 0, none⟩)), (9, .bool false), (10, .pointer (some ⟨b1323, 2, none⟩))] w2792 (by kernel_rfl) ?_
      refine W_val (.agg #[.slice p1315 x1309.Queue.Slots.length c1316, .slice p1319 x1309.Queue.Waiting.length c1320]) w2792 (by kernel_rfl) (E_load (e := 87) (fr := (0, 0)) _ _ true 2 b1323 2 [.int .i64 x1309.Mask, .slice p1311 x1309.Stack.length c1312, .slice p1315 x1309.Queue.Slots.length c1316, .slice p1319 x1309.Queue.Waiting.length c1320] (.agg #[.slice p1315 x1309.Queue.Slots.length c1316, .slice p1319 x1309.Queue.Waiting.length c1320]) rfl (by kernel_rfl) (by kernel_rfl) (by kernel_rfl) (M2794.blk 0 (b := b1323) (o := .cells ⟨[.int .i64 x1309.Mask, .slice p1311 x1309.Stack.length c1312, .slice p1315 x1309.Queue.Slots.length c1316, .slice p1319 x1309.Queue.Waiting.length c1320]⟩ 87 (0, 0)) (by kernel_rfl))) ?_
      obtain ⟨r2796, hr2796, hm⟩ := gx_bind hm
      refine W_call 154 #[.agg #[.slice p1315 x1309.Queue.Slots.length c1316, .slice p1319 x1309.Queue.Waiting.length c1320]] (by kernel_rfl) (by kernel_rfl) ?_
      refine (c_s_l9Good w2792 (⟨x1309.Queue.Slots, x1309.Queue.Waiting⟩ : Queue) p1315 c1316 (h1317.mem0 M2794) p1319 c1320 (h1321.mem0 M2794) hr2796).mono ?_
      rintro e_ w2797 ⟨rfl, K2798⟩
      have M2799 := M2794.call0 K2798
      refine ⟨_, rfl, ?_⟩
      refine W_run 2 [(1, .pointer (some ⟨b1323, 0, none⟩)), (14, .bool (!r2796))] w2797 (by kernel_rfl) ?_
      refine W_nil ?_
      obtain rfl := Option.some.inj hm
      exact N_meet fun a ha => ⟨M2799.pick [0] (by kernel_rfl), ha.sub (by kernel_rfl)⟩
  · intro a2802 w2800 ⟨M2801, hS2803⟩
    refine N_use hS2803 ?_
    have hm := hm2790
    refine N_then ?_
    rcases gx_bif hm with ⟨hc2804, hm⟩ | ⟨hc2804, hm⟩
    · refine G_cond_t (b := o2788) hc2804 (by kernel_rfl) ?_
      refine G_seq ?_
      refine G_region ?_
      refine W_run 1 [(2, .bool false)] w2800 (by kernel_rfl) ?_
      refine W_nil ?_
      refine N_then ?_
      refine G_ret ?_
      refine N_then_ret ?_
      obtain rfl := Option.some.inj hm
      refine N_ret [.bool false] (RVs_cons (RV_tmp (by kernel_rfl)) RVs_nil) ?_
      exact ⟨rfl, M2801.pick [] (by kernel_rfl)⟩
    · refine G_cond_f (b := o2788) hc2804 (by kernel_rfl) ?_
      refine G_skip ?_
      refine N_then ?_
      refine G_seq ?_
      refine G_region ?_
      refine W_run 2 [(1, .pointer (some ⟨b1323, 0, none⟩)), (16, .pointer (some ⟨b1323, 2, none⟩))] w2800 (by kernel_rfl) ?_
      refine W_val (.slice p1315 x1309.Queue.Slots.length c1316) w2800 (by kernel_rfl) (E_load (e := 87) (fr := (0, 0)) _ _ false 1 b1323 2 [.int .i64 x1309.Mask, .slice p1311 x1309.Stack.length c1312, .slice p1315 x1309.Queue.Slots.length c1316, .slice p1319 x1309.Queue.Waiting.length c1320] (.slice p1315 x1309.Queue.Slots.length c1316) rfl (by kernel_rfl) (by kernel_rfl) (by kernel_rfl) (M2801.blk 0 (b := b1323) (o := .cells ⟨[.int .i64 x1309.Mask, .slice p1311 x1309.Stack.length c1312, .slice p1315 x1309.Queue.Slots.length c1316, .slice p1319 x1309.Queue.Waiting.length c1320]⟩ 87 (0, 0)) (by kernel_rfl))) ?_
      obtain ⟨r3154, hr3154, hm⟩ := gx_bind hm
      refine W_call 155 #[.slice p1315 x1309.Queue.Slots.length c1316] (by kernel_rfl) (by kernel_rfl) ?_
      refine (c_s_l8Active w2800 x1309.Queue.Slots p1315 c1316 (h1317.mem0 M2801) hr3154).mono ?_
      rintro e_ w3160 ⟨p3156, c3157, sg3158, rfl, ho3159, K3161⟩
      have M3162 := M2801.call K3161
      refine ⟨_, rfl, ?_⟩
      refine W_run 1 [(1, .pointer (some ⟨b1323, 0, none⟩)), (3, .slice p3156 r3154.length c3157)] w3160 (by kernel_rfl) ?_
      refine W_nil ?_
      refine N_then ?_
      refine G_seq ?_
      refine G_seq ?_
      refine G_region ?_
      refine W_run 1 [(1, .pointer (some ⟨b1323, 0, none⟩)), (3, .slice p3156 r3154.length c3157), (4, .int .i64 0)] w3160 (by kernel_rfl) ?_
      refine W_nil ?_
      refine N_then ?_
      obtain ⟨out3383, hw3384, hmo3385⟩ := gx_bind hm
      refine G_meet (fun a w' => ∃ (o3386 : Unit), out3383 = .inl o3386 ∧ Mem [] w w' [[(b1323, .cells ⟨[.int .i64 x1309.Mask, .slice p1311 x1309.Stack.length c1312, .slice p1315 x1309.Queue.Slots.length c1316, .slice p1319 x1309.Queue.Waiting.length c1320]⟩ 87 (0, 0))], sg3158] ∧ Sat Tryz.f104.ntmps [(1, .pointer (some ⟨b1323, 0, none⟩)), (3, .slice p3156 r3154.length c3157)] a) ?_ ?_
      · refine G_block ?_
        refine G_while (σ := Int) (ρ := (Unit) ⊕ (Bool)) (fun s3376 a w' => Mem [] w w' [[(b1323, .cells ⟨[.int .i64 x1309.Mask, .slice p1311 x1309.Stack.length c1312, .slice p1315 x1309.Queue.Slots.length c1316, .slice p1319 x1309.Queue.Waiting.length c1320]⟩ 87 (0, 0))], sg3158] ∧ Sat Tryz.f104.ntmps [(1, .pointer (some ⟨b1323, 0, none⟩)), (3, .slice p3156 r3154.length c3157), (4, .int .i64 s3376)] a) hw3384 (fun a ha => ⟨M3162.pick [0, 1] (by kernel_rfl), ha.sub (by kernel_rfl)⟩) ?_
        clear hm
        intro s3376 x3377 hm hout3378 a3379 w3380 ⟨M3381, hS3382⟩
        refine G_use hS3382 ?_
        refine G_seq ?_
        refine G_seq ?_
        refine G_region ?_
        refine W_run 2 [(1, .pointer (some ⟨b1323, 0, none⟩)), (3, .slice p3156 r3154.length c3157), (4, .int .i64 s3376), (19, .int .i64 s3376), (20, .pointer (some ⟨b1323, 1, none⟩))] w3380 (by kernel_rfl) ?_
        refine W_val (.slice p1311 x1309.Stack.length c1312) w3380 (by kernel_rfl) (E_load (e := 87) (fr := (0, 0)) _ _ false 1 b1323 1 [.int .i64 x1309.Mask, .slice p1311 x1309.Stack.length c1312, .slice p1315 x1309.Queue.Slots.length c1316, .slice p1319 x1309.Queue.Waiting.length c1320] (.slice p1311 x1309.Stack.length c1312) rfl (by kernel_rfl) (by kernel_rfl) (by kernel_rfl) (M3381.blk 0 (b := b1323) (o := .cells ⟨[.int .i64 x1309.Mask, .slice p1311 x1309.Stack.length c1312, .slice p1315 x1309.Queue.Slots.length c1316, .slice p1319 x1309.Queue.Waiting.length c1320]⟩ 87 (0, 0)) (by kernel_rfl))) ?_
        refine W_run 2 [(1, .pointer (some ⟨b1323, 0, none⟩)), (3, .slice p3156 r3154.length c3157), (4, .int .i64 s3376), (23, .bool (decide (s3376 < (x1309.Stack.length : Int))))] w3380 (by kernel_rfl) ?_
        refine W_nil ?_
        refine N_then ?_
        rcases gx_bif hm with ⟨hc3387, hm⟩ | ⟨hc3387, hm⟩
        · refine G_cond_t (b := (decide (s3376 < (x1309.Stack.length : Int)))) hc3387 (by kernel_rfl) ?_
          refine G_skip ?_
          refine N_then ?_
          refine G_seq ?_
          refine G_block ?_
          refine G_seq ?_
          refine G_seq ?_
          obtain ⟨o3405, ho3406, hm3407⟩ := gx_bind hm
          refine G_meet (fun a w' => Mem [] w w' [[(b1323, .cells ⟨[.int .i64 x1309.Mask, .slice p1311 x1309.Stack.length c1312, .slice p1315 x1309.Queue.Slots.length c1316, .slice p1319 x1309.Queue.Waiting.length c1320]⟩ 87 (0, 0))], sg3158] ∧ Sat Tryz.f104.ntmps [(1, .pointer (some ⟨b1323, 0, none⟩)), (3, .slice p3156 r3154.length c3157), (4, .int .i64 s3376), (45, .bool o3405)] a) ?_ ?_
          · have hm := ho3406
            refine G_quiet (by kernel_rfl) (by kernel_rfl) M3381 ?_
            refine Z_runs [.slice p3156 r3154.length c3157, .pointer (some ⟨b1323, 1, none⟩)] [(1, .pointer (some ⟨b1323, 0, none⟩)), (3, .slice p3156 r3154.length c3157), (4, .int .i64 s3376), (26, .slice p3156 r3154.length c3157), (27, .pointer (some ⟨b1323, 1, none⟩))] (fun w_ => by kernel_rfl) (by kernel_rfl) ?_
            refine Z_val (.slice p1311 x1309.Stack.length c1312) (by kernel_rfl) (fun w_ M_ => (E_load (e := 87) (fr := (0, 0)) _ _ false 1 b1323 1 [.int .i64 x1309.Mask, .slice p1311 x1309.Stack.length c1312, .slice p1315 x1309.Queue.Slots.length c1316, .slice p1319 x1309.Queue.Waiting.length c1320] (.slice p1311 x1309.Stack.length c1312) rfl (by kernel_rfl) (by kernel_rfl) (by kernel_rfl) (M_.blk 0 (b := b1323) (o := .cells ⟨[.int .i64 x1309.Mask, .slice p1311 x1309.Stack.length c1312, .slice p1315 x1309.Queue.Slots.length c1316, .slice p1319 x1309.Queue.Waiting.length c1320]⟩ 87 (0, 0)) (by kernel_rfl)))) ?_
            refine Z_runs [.int .i64 s3376] [(1, .pointer (some ⟨b1323, 0, none⟩)), (3, .slice p3156 r3154.length c3157), (4, .int .i64 s3376), (26, .slice p3156 r3154.length c3157), (28, .slice p1311 x1309.Stack.length c1312), (29, .int .i64 s3376)] (fun w_ => by kernel_rfl) (by kernel_rfl) ?_
            obtain ⟨y3408, hy3408, hm⟩ := gx_bind hm
            refine Z_val (elemP p1311 (s3376.toNat * 1)) (by kernel_rfl) (fun w_ M_ => (E_index (E := Gx.encI) _ _ _ x1309.Stack.length c1312 .i64 s3376 1 (y := y3408) rfl (by kernel_rfl) (by kernel_rfl) (by kernel_rfl) (h1313.mem0 M_) rfl hy3408)) ?_
            refine Z_val (.int .i64 y3408) (by kernel_rfl) (fun w_ M_ => (E_loadE (E := Gx.encI) _ _ false 1 s3376 0 (s3376.toNat * 1) y3408 (.int .i64 y3408) rfl (by kernel_rfl) (by kernel_rfl) (by kernel_rfl) (h1313.mem0 M_) hy3408 rfl)) ?_
            obtain ⟨r3409, hr3409, hm⟩ := gx_bind hm
            refine Z_call 131 #[.slice p3156 r3154.length c3157, .int .i64 y3408] (.bool r3409) (by kernel_rfl) (fun w_ => by kernel_rfl) (fun w_ M_ => (c_s_l1Has w_ r3154 p3156 c3157 (ho3159.rd M_ 1 (by kernel_rfl)) y3408 hr3409).mono fun e w2_ h_ => ⟨h_.1, M_.call0 h_.2⟩) ?_
            refine Z_runs [.bool (!r3409), .bool (!r3409)] [(1, .pointer (some ⟨b1323, 0, none⟩)), (3, .slice p3156 r3154.length c3157), (4, .int .i64 s3376), (34, .bool (!r3409))] (fun w_ => by kernel_rfl) (by kernel_rfl) ?_
            rcases gx_bif hm with ⟨hc3413, hm⟩ | ⟨hc3413, hm⟩
            · refine Z_known 34 true (by kernel_rfl) hc3413 ?_
              refine Z_runs [undef, undef, undef, undef, undef, undef, undef, undef, undef, undef, .bool true] [(1, .pointer (some ⟨b1323, 0, none⟩)), (3, .slice p3156 r3154.length c3157), (4, .int .i64 s3376), (45, .bool true)] (fun w_ => by kernel_rfl) (by kernel_rfl) ?_
              refine Z_end fun w3414 M3415 => ?_
              obtain rfl := Option.some.inj hm
              exact N_meet fun a ha => ⟨M3415.pick [0, 1] (by kernel_rfl), ha.sub (by kernel_rfl)⟩
            · refine Z_known 34 false (by kernel_rfl) hc3413 ?_
              refine Z_runs [.pointer (some ⟨b1323, 1, none⟩)] [(1, .pointer (some ⟨b1323, 0, none⟩)), (3, .slice p3156 r3154.length c3157), (4, .int .i64 s3376), (34, .bool false), (35, .pointer (some ⟨b1323, 1, none⟩))] (fun w_ => by kernel_rfl) (by kernel_rfl) ?_
              refine Z_val (.slice p1311 x1309.Stack.length c1312) (by kernel_rfl) (fun w_ M_ => (E_load (e := 87) (fr := (0, 0)) _ _ false 1 b1323 1 [.int .i64 x1309.Mask, .slice p1311 x1309.Stack.length c1312, .slice p1315 x1309.Queue.Slots.length c1316, .slice p1319 x1309.Queue.Waiting.length c1320] (.slice p1311 x1309.Stack.length c1312) rfl (by kernel_rfl) (by kernel_rfl) (by kernel_rfl) (M_.blk 0 (b := b1323) (o := .cells ⟨[.int .i64 x1309.Mask, .slice p1311 x1309.Stack.length c1312, .slice p1315 x1309.Queue.Slots.length c1316, .slice p1319 x1309.Queue.Waiting.length c1320]⟩ 87 (0, 0)) (by kernel_rfl)))) ?_
              refine Z_runs [.int .i64 s3376] [(1, .pointer (some ⟨b1323, 0, none⟩)), (3, .slice p3156 r3154.length c3157), (4, .int .i64 s3376), (34, .bool false), (36, .slice p1311 x1309.Stack.length c1312), (37, .int .i64 s3376)] (fun w_ => by kernel_rfl) (by kernel_rfl) ?_
              obtain ⟨ys3416, hys3416, hm⟩ := gx_bind hm
              refine Z_val (.slice (subP p1311 (0 : Int).toNat c1312 1) ys3416.length (c1312 - (0 : Int).toNat)) (by kernel_rfl) (fun w_ M_ => (E_slice (E := Gx.encI) _ _ _ _ x1309.Stack.length 0 s3376 rfl (by kernel_rfl) (Or.inl ⟨rfl, rfl⟩) (Or.inr ⟨_, rfl, by kernel_rfl⟩) (by kernel_rfl) (h1313.mem0 M_) rfl hys3416)) ?_
              refine Z_runs [.pointer (some ⟨b1323, 1, none⟩)] [(1, .pointer (some ⟨b1323, 0, none⟩)), (3, .slice p3156 r3154.length c3157), (4, .int .i64 s3376), (34, .bool false), (38, .slice (subP p1311 (0 : Int).toNat c1312 1) ys3416.length (c1312 - (0 : Int).toNat)), (39, .pointer (some ⟨b1323, 1, none⟩))] (fun w_ => by kernel_rfl) (by kernel_rfl) ?_
              refine Z_val (.slice p1311 x1309.Stack.length c1312) (by kernel_rfl) (fun w_ M_ => (E_load (e := 87) (fr := (0, 0)) _ _ false 1 b1323 1 [.int .i64 x1309.Mask, .slice p1311 x1309.Stack.length c1312, .slice p1315 x1309.Queue.Slots.length c1316, .slice p1319 x1309.Queue.Waiting.length c1320] (.slice p1311 x1309.Stack.length c1312) rfl (by kernel_rfl) (by kernel_rfl) (by kernel_rfl) (M_.blk 0 (b := b1323) (o := .cells ⟨[.int .i64 x1309.Mask, .slice p1311 x1309.Stack.length c1312, .slice p1315 x1309.Queue.Slots.length c1316, .slice p1319 x1309.Queue.Waiting.length c1320]⟩ 87 (0, 0)) (by kernel_rfl)))) ?_
              refine Z_runs [.int .i64 s3376] [(1, .pointer (some ⟨b1323, 0, none⟩)), (3, .slice p3156 r3154.length c3157), (4, .int .i64 s3376), (34, .bool false), (38, .slice (subP p1311 (0 : Int).toNat c1312 1) ys3416.length (c1312 - (0 : Int).toNat)), (40, .slice p1311 x1309.Stack.length c1312), (41, .int .i64 s3376)] (fun w_ => by kernel_rfl) (by kernel_rfl) ?_
              obtain ⟨y3418, hy3418, hm⟩ := gx_bind hm
              refine Z_val (elemP p1311 (s3376.toNat * 1)) (by kernel_rfl) (fun w_ M_ => (E_index (E := Gx.encI) _ _ _ x1309.Stack.length c1312 .i64 s3376 1 (y := y3418) rfl (by kernel_rfl) (by kernel_rfl) (by kernel_rfl) (h1313.mem0 M_) rfl hy3418)) ?_
              refine Z_val (.int .i64 y3418) (by kernel_rfl) (fun w_ M_ => (E_loadE (E := Gx.encI) _ _ false 1 s3376 0 (s3376.toNat * 1) y3418 (.int .i64 y3418) rfl (by kernel_rfl) (by kernel_rfl) (by kernel_rfl) (h1313.mem0 M_) hy3418 rfl)) ?_
              obtain ⟨r3419, hr3419, hm⟩ := gx_bind hm
              refine Z_call 131 #[.slice (subP p1311 (0 : Int).toNat c1312 1) ys3416.length (c1312 - (0 : Int).toNat), .int .i64 y3418] (.bool r3419) (by kernel_rfl) (fun w_ => by kernel_rfl) (fun w_ M_ => (c_s_l1Has w_ ys3416 (subP p1311 (0 : Int).toNat c1312 1) (c1312 - (0 : Int).toNat) ((h1313.mem0 M_).sliceM hys3416) y3418 hr3419).mono fun e w2_ h_ => ⟨h_.1, M_.call0 h_.2⟩) ?_
              refine Z_runs [.bool r3419] [(1, .pointer (some ⟨b1323, 0, none⟩)), (3, .slice p3156 r3154.length c3157), (4, .int .i64 s3376), (45, .bool r3419)] (fun w_ => by kernel_rfl) (by kernel_rfl) ?_
              refine Z_end fun w3423 M3424 => ?_
              obtain rfl := Option.some.inj hm
              exact N_meet fun a ha => ⟨M3424.pick [0, 1] (by kernel_rfl), ha.sub (by kernel_rfl)⟩
          · intro a3427 w3425 ⟨M3426, hS3428⟩
            refine N_use hS3428 ?_
            have hm := hm3407
            refine N_then ?_
            rcases gx_bif hm with ⟨hc3429, hm⟩ | ⟨hc3429, hm⟩
            · refine G_cond_t (b := o3405) hc3429 (by kernel_rfl) ?_
              refine G_seq ?_
              refine G_region ?_
              refine W_run 1 [(2, .bool false)] w3425 (by kernel_rfl) ?_
              refine W_nil ?_
              refine N_then ?_
              refine G_ret ?_
              refine N_then_ret ?_
              refine N_block_ret ?_
              refine N_then_ret ?_
              refine N_then_ret ?_
              obtain rfl := Option.some.inj hm
              obtain rfl := hout3378 _ rfl
              have hm := hmo3385; simp only [Sum.elim_inr] at hm
              refine N_block_ret ?_
              refine N_meet_ret ?_
              refine N_then_ret ?_
              obtain rfl := Option.some.inj hm
              refine N_ret [.bool false] (RVs_cons (RV_tmp (by kernel_rfl)) RVs_nil) ?_
              exact ⟨rfl, M3426.pick [] (by kernel_rfl)⟩
            · refine G_cond_f (b := o3405) hc3429 (by kernel_rfl) ?_
              refine G_skip ?_
              refine N_then ?_
              refine G_seq ?_
              obtain ⟨o3445, ho3446, hm3447⟩ := gx_bind hm
              refine G_meet (fun a w' => Mem [] w w' [[(b1323, .cells ⟨[.int .i64 x1309.Mask, .slice p1311 x1309.Stack.length c1312, .slice p1315 x1309.Queue.Slots.length c1316, .slice p1319 x1309.Queue.Waiting.length c1320]⟩ 87 (0, 0))], sg3158] ∧ Sat Tryz.f104.ntmps [(1, .pointer (some ⟨b1323, 0, none⟩)), (3, .slice p3156 r3154.length c3157), (4, .int .i64 s3376), (67, .bool o3445)] a) ?_ ?_
              · have hm := ho3446
                refine G_quiet (by kernel_rfl) (by kernel_rfl) M3426 ?_
                refine Z_runs [.int .i64 s3376, .bool (decide (s3376 > 0)), .bool (decide (s3376 > 0))] [(1, .pointer (some ⟨b1323, 0, none⟩)), (3, .slice p3156 r3154.length c3157), (4, .int .i64 s3376), (48, .bool (decide (s3376 > 0)))] (fun w_ => by kernel_rfl) (by kernel_rfl) ?_
                rcases gx_bif hm with ⟨hc3448, hm⟩ | ⟨hc3448, hm⟩
                · refine Z_known 48 true (by kernel_rfl) hc3448 ?_
                  refine Z_runs [.pointer (some ⟨b1323, 2, none⟩)] [(1, .pointer (some ⟨b1323, 0, none⟩)), (3, .slice p3156 r3154.length c3157), (4, .int .i64 s3376), (48, .bool true), (49, .pointer (some ⟨b1323, 2, none⟩))] (fun w_ => by kernel_rfl) (by kernel_rfl) ?_
                  refine Z_val (.agg #[.slice p1315 x1309.Queue.Slots.length c1316, .slice p1319 x1309.Queue.Waiting.length c1320]) (by kernel_rfl) (fun w_ M_ => (E_load (e := 87) (fr := (0, 0)) _ _ true 2 b1323 2 [.int .i64 x1309.Mask, .slice p1311 x1309.Stack.length c1312, .slice p1315 x1309.Queue.Slots.length c1316, .slice p1319 x1309.Queue.Waiting.length c1320] (.agg #[.slice p1315 x1309.Queue.Slots.length c1316, .slice p1319 x1309.Queue.Waiting.length c1320]) rfl (by kernel_rfl) (by kernel_rfl) (by kernel_rfl) (M_.blk 0 (b := b1323) (o := .cells ⟨[.int .i64 x1309.Mask, .slice p1311 x1309.Stack.length c1312, .slice p1315 x1309.Queue.Slots.length c1316, .slice p1319 x1309.Queue.Waiting.length c1320]⟩ 87 (0, 0)) (by kernel_rfl)))) ?_
                  refine Z_runs [.pointer (some ⟨b1323, 1, none⟩)] [(1, .pointer (some ⟨b1323, 0, none⟩)), (3, .slice p3156 r3154.length c3157), (4, .int .i64 s3376), (48, .bool true), (50, .agg #[.slice p1315 x1309.Queue.Slots.length c1316, .slice p1319 x1309.Queue.Waiting.length c1320]), (51, .pointer (some ⟨b1323, 1, none⟩))] (fun w_ => by kernel_rfl) (by kernel_rfl) ?_
                  refine Z_val (.slice p1311 x1309.Stack.length c1312) (by kernel_rfl) (fun w_ M_ => (E_load (e := 87) (fr := (0, 0)) _ _ false 1 b1323 1 [.int .i64 x1309.Mask, .slice p1311 x1309.Stack.length c1312, .slice p1315 x1309.Queue.Slots.length c1316, .slice p1319 x1309.Queue.Waiting.length c1320] (.slice p1311 x1309.Stack.length c1312) rfl (by kernel_rfl) (by kernel_rfl) (by kernel_rfl) (M_.blk 0 (b := b1323) (o := .cells ⟨[.int .i64 x1309.Mask, .slice p1311 x1309.Stack.length c1312, .slice p1315 x1309.Queue.Slots.length c1316, .slice p1319 x1309.Queue.Waiting.length c1320]⟩ 87 (0, 0)) (by kernel_rfl)))) ?_
                  refine Z_runs [.int .i64 s3376, .int .i64 (w64 (s3376 - 1))] [(1, .pointer (some ⟨b1323, 0, none⟩)), (3, .slice p3156 r3154.length c3157), (4, .int .i64 s3376), (48, .bool true), (50, .agg #[.slice p1315 x1309.Queue.Slots.length c1316, .slice p1319 x1309.Queue.Waiting.length c1320]), (52, .slice p1311 x1309.Stack.length c1312), (54, .int .i64 (w64 (s3376 - 1)))] (fun w_ => by kernel_rfl) (by kernel_rfl) ?_
                  obtain ⟨y3449, hy3449, hm⟩ := gx_bind hm
                  refine Z_val (elemP p1311 ((w64 (s3376 - 1)).toNat * 1)) (by kernel_rfl) (fun w_ M_ => (E_index (E := Gx.encI) _ _ _ x1309.Stack.length c1312 .i64 (w64 (s3376 - 1)) 1 (y := y3449) rfl (by kernel_rfl) (by kernel_rfl) (by kernel_rfl) (h1313.mem0 M_) rfl hy3449)) ?_
                  refine Z_val (.int .i64 y3449) (by kernel_rfl) (fun w_ M_ => (E_loadE (E := Gx.encI) _ _ false 1 (w64 (s3376 - 1)) 0 ((w64 (s3376 - 1)).toNat * 1) y3449 (.int .i64 y3449) rfl (by kernel_rfl) (by kernel_rfl) (by kernel_rfl) (h1313.mem0 M_) hy3449 rfl)) ?_
                  obtain ⟨r3450, hr3450, hm⟩ := gx_bind hm
                  refine Z_call 156 #[.agg #[.slice p1315 x1309.Queue.Slots.length c1316, .slice p1319 x1309.Queue.Waiting.length c1320], .int .i64 y3449] (.int .i64 r3450) (by kernel_rfl) (fun w_ => by kernel_rfl) (fun w_ M_ => (c_s_l10Level w_ (⟨x1309.Queue.Slots, x1309.Queue.Waiting⟩ : Queue) p1315 c1316 (h1317.mem0 M_) p1319 c1320 (h1321.mem0 M_) y3449 hr3450).mono fun e w2_ h_ => ⟨h_.1, M_.call0 h_.2⟩) ?_
                  refine Z_runs [.pointer (some ⟨b1323, 2, none⟩)] [(1, .pointer (some ⟨b1323, 0, none⟩)), (3, .slice p3156 r3154.length c3157), (4, .int .i64 s3376), (48, .bool true), (57, .int .i64 r3450), (58, .pointer (some ⟨b1323, 2, none⟩))] (fun w_ => by kernel_rfl) (by kernel_rfl) ?_
                  refine Z_val (.agg #[.slice p1315 x1309.Queue.Slots.length c1316, .slice p1319 x1309.Queue.Waiting.length c1320]) (by kernel_rfl) (fun w_ M_ => (E_load (e := 87) (fr := (0, 0)) _ _ true 2 b1323 2 [.int .i64 x1309.Mask, .slice p1311 x1309.Stack.length c1312, .slice p1315 x1309.Queue.Slots.length c1316, .slice p1319 x1309.Queue.Waiting.length c1320] (.agg #[.slice p1315 x1309.Queue.Slots.length c1316, .slice p1319 x1309.Queue.Waiting.length c1320]) rfl (by kernel_rfl) (by kernel_rfl) (by kernel_rfl) (M_.blk 0 (b := b1323) (o := .cells ⟨[.int .i64 x1309.Mask, .slice p1311 x1309.Stack.length c1312, .slice p1315 x1309.Queue.Slots.length c1316, .slice p1319 x1309.Queue.Waiting.length c1320]⟩ 87 (0, 0)) (by kernel_rfl)))) ?_
                  refine Z_runs [.pointer (some ⟨b1323, 1, none⟩)] [(1, .pointer (some ⟨b1323, 0, none⟩)), (3, .slice p3156 r3154.length c3157), (4, .int .i64 s3376), (48, .bool true), (57, .int .i64 r3450), (59, .agg #[.slice p1315 x1309.Queue.Slots.length c1316, .slice p1319 x1309.Queue.Waiting.length c1320]), (60, .pointer (some ⟨b1323, 1, none⟩))] (fun w_ => by kernel_rfl) (by kernel_rfl) ?_
                  refine Z_val (.slice p1311 x1309.Stack.length c1312) (by kernel_rfl) (fun w_ M_ => (E_load (e := 87) (fr := (0, 0)) _ _ false 1 b1323 1 [.int .i64 x1309.Mask, .slice p1311 x1309.Stack.length c1312, .slice p1315 x1309.Queue.Slots.length c1316, .slice p1319 x1309.Queue.Waiting.length c1320] (.slice p1311 x1309.Stack.length c1312) rfl (by kernel_rfl) (by kernel_rfl) (by kernel_rfl) (M_.blk 0 (b := b1323) (o := .cells ⟨[.int .i64 x1309.Mask, .slice p1311 x1309.Stack.length c1312, .slice p1315 x1309.Queue.Slots.length c1316, .slice p1319 x1309.Queue.Waiting.length c1320]⟩ 87 (0, 0)) (by kernel_rfl)))) ?_
                  refine Z_runs [.int .i64 s3376] [(1, .pointer (some ⟨b1323, 0, none⟩)), (3, .slice p3156 r3154.length c3157), (4, .int .i64 s3376), (48, .bool true), (57, .int .i64 r3450), (59, .agg #[.slice p1315 x1309.Queue.Slots.length c1316, .slice p1319 x1309.Queue.Waiting.length c1320]), (61, .slice p1311 x1309.Stack.length c1312), (62, .int .i64 s3376)] (fun w_ => by kernel_rfl) (by kernel_rfl) ?_
                  obtain ⟨y3454, hy3454, hm⟩ := gx_bind hm
                  refine Z_val (elemP p1311 (s3376.toNat * 1)) (by kernel_rfl) (fun w_ M_ => (E_index (E := Gx.encI) _ _ _ x1309.Stack.length c1312 .i64 s3376 1 (y := y3454) rfl (by kernel_rfl) (by kernel_rfl) (by kernel_rfl) (h1313.mem0 M_) rfl hy3454)) ?_
                  refine Z_val (.int .i64 y3454) (by kernel_rfl) (fun w_ M_ => (E_loadE (E := Gx.encI) _ _ false 1 s3376 0 (s3376.toNat * 1) y3454 (.int .i64 y3454) rfl (by kernel_rfl) (by kernel_rfl) (by kernel_rfl) (h1313.mem0 M_) hy3454 rfl)) ?_
                  obtain ⟨r3455, hr3455, hm⟩ := gx_bind hm
                  refine Z_call 156 #[.agg #[.slice p1315 x1309.Queue.Slots.length c1316, .slice p1319 x1309.Queue.Waiting.length c1320], .int .i64 y3454] (.int .i64 r3455) (by kernel_rfl) (fun w_ => by kernel_rfl) (fun w_ M_ => (c_s_l10Level w_ (⟨x1309.Queue.Slots, x1309.Queue.Waiting⟩ : Queue) p1315 c1316 (h1317.mem0 M_) p1319 c1320 (h1321.mem0 M_) y3454 hr3455).mono fun e w2_ h_ => ⟨h_.1, M_.call0 h_.2⟩) ?_
                  refine Z_runs [.bool (decide (r3450 ≤ r3455)), .bool (decide (r3450 ≤ r3455))] [(1, .pointer (some ⟨b1323, 0, none⟩)), (3, .slice p3156 r3154.length c3157), (4, .int .i64 s3376), (67, .bool (decide (r3450 ≤ r3455)))] (fun w_ => by kernel_rfl) (by kernel_rfl) ?_
                  refine Z_end fun w3459 M3460 => ?_
                  obtain rfl := Option.some.inj hm
                  exact N_meet fun a ha => ⟨M3460.pick [0, 1] (by kernel_rfl), ha.sub (by kernel_rfl)⟩
                · refine Z_known 48 false (by kernel_rfl) hc3448 ?_
                  refine Z_runs [undef, undef, undef, undef, undef, undef, undef, undef, undef, undef, undef, undef, undef, undef, undef, undef, undef, undef, .bool false] [(1, .pointer (some ⟨b1323, 0, none⟩)), (3, .slice p3156 r3154.length c3157), (4, .int .i64 s3376), (67, .bool false)] (fun w_ => by kernel_rfl) (by kernel_rfl) ?_
                  refine Z_end fun w3461 M3462 => ?_
                  obtain rfl := Option.some.inj hm
                  exact N_meet fun a ha => ⟨M3462.pick [0, 1] (by kernel_rfl), ha.sub (by kernel_rfl)⟩
              · intro a3465 w3463 ⟨M3464, hS3466⟩
                refine N_use hS3466 ?_
                have hm := hm3447
                refine N_then ?_
                rcases gx_bif hm with ⟨hc3467, hm⟩ | ⟨hc3467, hm⟩
                · refine G_cond_t (b := o3445) hc3467 (by kernel_rfl) ?_
                  refine G_seq ?_
                  refine G_region ?_
                  refine W_run 1 [(2, .bool false)] w3463 (by kernel_rfl) ?_
                  refine W_nil ?_
                  refine N_then ?_
                  refine G_ret ?_
                  refine N_block_ret ?_
                  refine N_then_ret ?_
                  refine N_then_ret ?_
                  obtain rfl := Option.some.inj hm
                  obtain rfl := hout3378 _ rfl
                  have hm := hmo3385; simp only [Sum.elim_inr] at hm
                  refine N_block_ret ?_
                  refine N_meet_ret ?_
                  refine N_then_ret ?_
                  obtain rfl := Option.some.inj hm
                  refine N_ret [.bool false] (RVs_cons (RV_tmp (by kernel_rfl)) RVs_nil) ?_
                  exact ⟨rfl, M3464.pick [] (by kernel_rfl)⟩
                · refine G_cond_f (b := o3445) hc3467 (by kernel_rfl) ?_
                  refine G_skip ?_
                  refine N_block ?_
                  refine N_then ?_
                  refine G_region ?_
                  refine W_run 3 [(1, .pointer (some ⟨b1323, 0, none⟩)), (3, .slice p3156 r3154.length c3157), (4, .int .i64 (w64 (s3376 + 1)))] w3463 (by kernel_rfl) ?_
                  refine W_nil ?_
                  obtain rfl := Option.some.inj hm
                  exact N_loop fun a ha => ⟨_, rfl, M3464.pick [0, 1] (by kernel_rfl), ha.sub (by kernel_rfl)⟩
        · refine G_cond_f (b := (decide (s3376 < (x1309.Stack.length : Int)))) hc3387 (by kernel_rfl) ?_
          refine G_exit ?_
          refine N_then_exit ?_
          refine N_then_exit ?_
          refine N_block_eq ?_
          obtain rfl := Option.some.inj hm
          obtain rfl := hout3378 _ rfl
          exact N_meet fun a ha => ⟨_, rfl, M3381.pick [0, 1] (by kernel_rfl), ha.sub (by kernel_rfl)⟩
      · intro a3468 w3469 ⟨o3386, hout_, M3470, hS3471⟩
        refine N_use hS3471 ?_
        subst hout_
        have hm := hmo3385; simp only [Sum.elim_inl] at hm
        refine N_then ?_
        refine G_seq ?_
        refine G_region ?_
        refine W_run 1 [(3, .slice p3156 r3154.length c3157), (68, .pointer (some ⟨b1323, 1, none⟩))] w3469 (by kernel_rfl) ?_
        refine W_val (.slice p1311 x1309.Stack.length c1312) w3469 (by kernel_rfl) (E_load (e := 87) (fr := (0, 0)) _ _ false 1 b1323 1 [.int .i64 x1309.Mask, .slice p1311 x1309.Stack.length c1312, .slice p1315 x1309.Queue.Slots.length c1316, .slice p1319 x1309.Queue.Waiting.length c1320] (.slice p1311 x1309.Stack.length c1312) rfl (by kernel_rfl) (by kernel_rfl) (by kernel_rfl) (M3470.blk 0 (b := b1323) (o := .cells ⟨[.int .i64 x1309.Mask, .slice p1311 x1309.Stack.length c1312, .slice p1315 x1309.Queue.Slots.length c1316, .slice p1319 x1309.Queue.Waiting.length c1320]⟩ 87 (0, 0)) (by kernel_rfl))) ?_
        refine W_run 5 [(2, .bool ((x1309.Stack.length : Int) == (r3154.length : Int)))] w3469 (by kernel_rfl) ?_
        refine W_nil ?_
        refine N_then ?_
        refine G_ret ?_
        obtain rfl := Option.some.inj hm
        refine N_ret [.bool ((x1309.Stack.length : Int) == (r3154.length : Int))] (RVs_cons (RV_tmp (by kernel_rfl)) RVs_nil) ?_
        exact ⟨rfl, M3470.pick [] (by kernel_rfl)⟩
theorem c_s_l21Queue (w : World) (x3485 : List Route) (p3487 : Option Addr) (c3488 : Nat) (h3489 : rdS encRoute w x3485 p3487 c3488) (x3490 : Queue) (p3492 : Option Addr) (c3493 : Nat) (h3494 : rdS encSlot w x3490.Slots p3492 c3493) (p3496 : Option Addr) (c3497 : Nat) (h3498 : rdS encWaiter w x3490.Waiting p3496 c3497) (x3499 : Int) {r : Bool} (hm : M.s_l21Queue x3485 x3490 x3499 = some r) :
    Calls Tryz.prog 105 #[.slice p3487 x3485.length c3488, .agg #[.slice p3492 x3490.Slots.length c3493, .slice p3496 x3490.Waiting.length c3497], .int .i64 x3499] w fun e w' => e = .returned (.bool r) ∧ Mem [] w w' [] := by
  unfold M.s_l21Queue at hm
  refine C_enter Tryz.func105 rfl (by kernel_rfl) ?_
  have M0 := Mem.refl [] w
  refine G_seq ?_
  refine G_region ?_
  refine W_new (fun b => .pointer (some ⟨b, 0, none⟩)) (.cells ⟨[.slice p3492 x3490.Slots.length c3493, .slice p3496 x3490.Waiting.length c3497]⟩ 85 (0, 0)) M0 rfl (by kernel_rfl) (by kernel_rfl) ?_
  intro b3501 w3502 M3503
  refine W_run 1 [(0, .slice p3487 x3485.length c3488), (2, .int .i64 x3499), (4, .pointer (some ⟨b3501, 0, none⟩))] w3502 (by kernel_rfl) ?_
  refine W_nil ?_
  refine N_then ?_
  refine G_seq ?_
  refine G_seq ?_
  refine G_region ?_
  refine W_run 1 [(0, .slice p3487 x3485.length c3488), (2, .int .i64 x3499), (4, .pointer (some ⟨b3501, 0, none⟩)), (7, .int .i64 0)] w3502 (by kernel_rfl) ?_
  refine W_nil ?_
  refine N_then ?_
  obtain ⟨out3595, hw3596, hmo3597⟩ := gx_bind hm
  refine G_meet (fun a w' => ∃ (o3598 : Unit), out3595 = .inl o3598 ∧ Mem [] w w' [[(b3501, .cells ⟨[.slice p3492 x3490.Slots.length c3493, .slice p3496 x3490.Waiting.length c3497]⟩ 85 (0, 0))]] ∧ Sat Tryz.f105.ntmps [(0, .slice p3487 x3485.length c3488), (2, .int .i64 x3499), (4, .pointer (some ⟨b3501, 0, none⟩))] a) ?_ ?_
  · refine G_block ?_
    refine G_while (σ := Int) (ρ := (Unit) ⊕ (Bool)) (fun s3588 a w' => Mem [] w w' [[(b3501, .cells ⟨[.slice p3492 x3490.Slots.length c3493, .slice p3496 x3490.Waiting.length c3497]⟩ 85 (0, 0))]] ∧ Sat Tryz.f105.ntmps [(0, .slice p3487 x3485.length c3488), (2, .int .i64 x3499), (4, .pointer (some ⟨b3501, 0, none⟩)), (7, .int .i64 s3588)] a) hw3596 (fun a ha => ⟨M3503.pick [0] (by kernel_rfl), ha.sub (by kernel_rfl)⟩) ?_
    clear hm
    intro s3588 x3589 hm hout3590 a3591 w3592 ⟨M3593, hS3594⟩
    refine G_use hS3594 ?_
    refine G_seq ?_
    refine G_seq ?_
    refine G_region ?_
    refine W_run 2 [(0, .slice p3487 x3485.length c3488), (2, .int .i64 x3499), (4, .pointer (some ⟨b3501, 0, none⟩)), (7, .int .i64 s3588), (11, .int .i64 s3588), (12, .pointer (some ⟨b3501, 0, none⟩))] w3592 (by kernel_rfl) ?_
    refine W_val (.slice p3492 x3490.Slots.length c3493) w3592 (by kernel_rfl) (E_load (e := 85) (fr := (0, 0)) _ _ false 1 b3501 0 [.slice p3492 x3490.Slots.length c3493, .slice p3496 x3490.Waiting.length c3497] (.slice p3492 x3490.Slots.length c3493) rfl (by kernel_rfl) (by kernel_rfl) (by kernel_rfl) (M3593.blk 0 (b := b3501) (o := .cells ⟨[.slice p3492 x3490.Slots.length c3493, .slice p3496 x3490.Waiting.length c3497]⟩ 85 (0, 0)) (by kernel_rfl))) ?_
    refine W_run 2 [(0, .slice p3487 x3485.length c3488), (2, .int .i64 x3499), (4, .pointer (some ⟨b3501, 0, none⟩)), (7, .int .i64 s3588), (15, .bool (decide (s3588 < (x3490.Slots.length : Int))))] w3592 (by kernel_rfl) ?_
    refine W_nil ?_
    refine N_then ?_
    rcases gx_bif hm with ⟨hc3599, hm⟩ | ⟨hc3599, hm⟩
    · refine G_cond_t (b := (decide (s3588 < (x3490.Slots.length : Int)))) hc3599 (by kernel_rfl) ?_
      refine G_skip ?_
      refine N_then ?_
      refine G_seq ?_
      refine G_block ?_
      refine G_seq ?_
      refine G_region ?_
      refine W_run 1 [(0, .slice p3487 x3485.length c3488), (2, .int .i64 x3499), (4, .pointer (some ⟨b3501, 0, none⟩)), (7, .int .i64 s3588), (18, .pointer (some ⟨b3501, 0, none⟩))] w3592 (by kernel_rfl) ?_
      refine W_val (.slice p3492 x3490.Slots.length c3493) w3592 (by kernel_rfl) (E_load (e := 85) (fr := (0, 0)) _ _ false 1 b3501 0 [.slice p3492 x3490.Slots.length c3493, .slice p3496 x3490.Waiting.length c3497] (.slice p3492 x3490.Slots.length c3493) rfl (by kernel_rfl) (by kernel_rfl) (by kernel_rfl) (M3593.blk 0 (b := b3501) (o := .cells ⟨[.slice p3492 x3490.Slots.length c3493, .slice p3496 x3490.Waiting.length c3497]⟩ 85 (0, 0)) (by kernel_rfl))) ?_
      refine W_run 1 [(0, .slice p3487 x3485.length c3488), (2, .int .i64 x3499), (4, .pointer (some ⟨b3501, 0, none⟩)), (7, .int .i64 s3588), (19, .slice p3492 x3490.Slots.length c3493), (20, .int .i64 s3588)] w3592 (by kernel_rfl) ?_
      obtain ⟨y3600, hy3600, hm⟩ := gx_bind hm
      refine W_val (elemP p3492 (s3588.toNat * 3)) w3592 (by kernel_rfl) (E_index (E := encSlot) _ _ _ x3490.Slots.length c3493 .i64 s3588 3 (y := y3600) rfl (by kernel_rfl) (by kernel_rfl) (by kernel_rfl) (h3494.mem0 M3593) rfl hy3600) ?_
      refine W_val (.agg #[.int .i64 y3600.State, .int .i64 y3600.Irq, .int .i64 y3600.Priority]) w3592 (by kernel_rfl) (E_loadE (E := encSlot) _ _ true 3 s3588 0 (s3588.toNat * 3) y3600 (.agg #[.int .i64 y3600.State, .int .i64 y3600.Irq, .int .i64 y3600.Priority]) rfl (by kernel_rfl) (by kernel_rfl) (by kernel_rfl) (h3494.mem0 M3593) hy3600 rfl) ?_
      refine W_new (fun b => .pointer (some ⟨b, 0, none⟩)) (.cells ⟨[.int .i64 0, .int .i64 0, .int .i64 0]⟩ 117 (0, 0)) M3593 rfl (by kernel_rfl) (by kernel_rfl) ?_
      intro b3602 w3603 M3604
      refine W_store _ _ _ true 3 b3602 0 [.int .i64 0, .int .i64 0, .int .i64 0] 117 (.agg #[.int .i64 y3600.State, .int .i64 y3600.Irq, .int .i64 y3600.Priority]) 1 [.int .i64 y3600.State, .int .i64 y3600.Irq, .int .i64 y3600.Priority] M3604 (by kernel_rfl) rfl (by kernel_rfl) (by kernel_rfl) (by kernel_rfl) (by kernel_rfl) (by kernel_rfl) (by kernel_rfl) (by kernel_rfl) (by kernel_rfl) ?_
      intro w3605 M3606
      refine W_nil ?_
      refine N_then ?_
      refine G_seq ?_
      obtain ⟨o3620, ho3621, hm3622⟩ := gx_bind hm
      refine G_meet (fun a w' => Mem [] w w' [[(b3501, .cells ⟨[.slice p3492 x3490.Slots.length c3493, .slice p3496 x3490.Waiting.length c3497]⟩ 85 (0, 0))]] ∧ Sat Tryz.f105.ntmps [(0, .slice p3487 x3485.length c3488), (2, .int .i64 x3499), (4, .pointer (some ⟨b3501, 0, none⟩)), (7, .int .i64 s3588), (51, .bool o3620)] a) ?_ ?_
      · have hm := ho3621
        refine G_quiet (by kernel_rfl) (by kernel_rfl) M3606 ?_
        refine Z_runs [.pointer (some ⟨b3602, 0, none⟩)] [(0, .slice p3487 x3485.length c3488), (2, .int .i64 x3499), (4, .pointer (some ⟨b3501, 0, none⟩)), (7, .int .i64 s3588), (8, .pointer (some ⟨b3602, 0, none⟩)), (23, .pointer (some ⟨b3602, 0, none⟩))] (fun w_ => by kernel_rfl) (by kernel_rfl) ?_
        refine Z_val (.int .i64 y3600.State) (by kernel_rfl) (fun w_ M_ => (E_load (e := 117) (fr := (0, 0)) _ _ false 1 b3602 0 [.int .i64 y3600.State, .int .i64 y3600.Irq, .int .i64 y3600.Priority] (.int .i64 y3600.State) rfl (by kernel_rfl) (by kernel_rfl) (by kernel_rfl) (M_.blk 1 (b := b3602) (o := .cells ⟨[.int .i64 y3600.State, .int .i64 y3600.Irq, .int .i64 y3600.Priority]⟩ 117 (0, 0)) (by kernel_rfl)))) ?_
        refine Z_runs [.bool (y3600.State == 3), .bool (y3600.State == 3)] [(0, .slice p3487 x3485.length c3488), (2, .int .i64 x3499), (4, .pointer (some ⟨b3501, 0, none⟩)), (7, .int .i64 s3588), (8, .pointer (some ⟨b3602, 0, none⟩)), (26, .bool (y3600.State == 3))] (fun w_ => by kernel_rfl) (by kernel_rfl) ?_
        rcases gx_bif hm with ⟨hc3623, hm⟩ | ⟨hc3623, hm⟩
        · refine Z_known 26 true (by kernel_rfl) hc3623 ?_
          refine Z_runs [undef, undef, undef, undef, undef, undef, undef, undef, undef, undef, undef, undef, undef, undef, undef, undef, undef, undef, undef, undef, undef, undef, undef, undef, .bool true] [(0, .slice p3487 x3485.length c3488), (2, .int .i64 x3499), (4, .pointer (some ⟨b3501, 0, none⟩)), (7, .int .i64 s3588), (51, .bool true)] (fun w_ => by kernel_rfl) (by kernel_rfl) ?_
          refine Z_end fun w3624 M3625 => ?_
          obtain rfl := Option.some.inj hm
          exact N_meet fun a ha => ⟨M3625.pick [0] (by kernel_rfl), ha.sub (by kernel_rfl)⟩
        · refine Z_known 26 false (by kernel_rfl) hc3623 ?_
          refine Z_runs [.pointer (some ⟨b3602, 0, none⟩)] [(0, .slice p3487 x3485.length c3488), (2, .int .i64 x3499), (4, .pointer (some ⟨b3501, 0, none⟩)), (7, .int .i64 s3588), (8, .pointer (some ⟨b3602, 0, none⟩)), (26, .bool false), (27, .pointer (some ⟨b3602, 0, none⟩))] (fun w_ => by kernel_rfl) (by kernel_rfl) ?_
          refine Z_val (.int .i64 y3600.State) (by kernel_rfl) (fun w_ M_ => (E_load (e := 117) (fr := (0, 0)) _ _ false 1 b3602 0 [.int .i64 y3600.State, .int .i64 y3600.Irq, .int .i64 y3600.Priority] (.int .i64 y3600.State) rfl (by kernel_rfl) (by kernel_rfl) (by kernel_rfl) (M_.blk 1 (b := b3602) (o := .cells ⟨[.int .i64 y3600.State, .int .i64 y3600.Irq, .int .i64 y3600.Priority]⟩ 117 (0, 0)) (by kernel_rfl)))) ?_
          refine Z_runs [.bool (y3600.State != 0), .bool (y3600.State != 0)] [(0, .slice p3487 x3485.length c3488), (2, .int .i64 x3499), (4, .pointer (some ⟨b3501, 0, none⟩)), (7, .int .i64 s3588), (8, .pointer (some ⟨b3602, 0, none⟩)), (26, .bool false), (30, .bool (y3600.State != 0))] (fun w_ => by kernel_rfl) (by kernel_rfl) ?_
          rcases gx_bif hm with ⟨hc3626, hm⟩ | ⟨hc3626, hm⟩
          · refine Z_known 30 true (by kernel_rfl) hc3626 ?_
            refine Z_runs [.slice p3487 x3485.length c3488, .pointer (some ⟨b3602, 1, none⟩)] [(0, .slice p3487 x3485.length c3488), (2, .int .i64 x3499), (4, .pointer (some ⟨b3501, 0, none⟩)), (7, .int .i64 s3588), (8, .pointer (some ⟨b3602, 0, none⟩)), (26, .bool false), (30, .bool true), (31, .slice p3487 x3485.length c3488), (32, .pointer (some ⟨b3602, 1, none⟩))] (fun w_ => by kernel_rfl) (by kernel_rfl) ?_
            refine Z_val (.int .i64 y3600.Irq) (by kernel_rfl) (fun w_ M_ => (E_load (e := 117) (fr := (0, 0)) _ _ false 1 b3602 1 [.int .i64 y3600.State, .int .i64 y3600.Irq, .int .i64 y3600.Priority] (.int .i64 y3600.Irq) rfl (by kernel_rfl) (by kernel_rfl) (by kernel_rfl) (M_.blk 1 (b := b3602) (o := .cells ⟨[.int .i64 y3600.State, .int .i64 y3600.Irq, .int .i64 y3600.Priority]⟩ 117 (0, 0)) (by kernel_rfl)))) ?_
            obtain ⟨y3627, hy3627, hm⟩ := gx_bind hm
            refine Z_val (elemP p3487 (y3600.Irq.toNat * 2)) (by kernel_rfl) (fun w_ M_ => (E_index (E := encRoute) _ _ _ x3485.length c3488 .i64 y3600.Irq 2 (y := y3627) rfl (by kernel_rfl) (by kernel_rfl) (by kernel_rfl) (h3489.mem0 M_) rfl hy3627)) ?_
            refine Z_val (elemP p3487 (y3600.Irq.toNat * 2 + 1)) (by kernel_rfl) (fun w_ M_ => (E_fieldE (E := encRoute) _ _ 1 (y3600.Irq.toNat * 2) 1 rfl (by kernel_rfl) (by kernel_rfl) (h3489.mem0 M_) hy3627)) ?_
            refine Z_val (.int .i64 y3627.Target) (by kernel_rfl) (fun w_ M_ => (E_loadE (E := encRoute) _ _ false 1 y3600.Irq 1 (y3600.Irq.toNat * 2 + 1) y3627 (.int .i64 y3627.Target) rfl (by kernel_rfl) (by kernel_rfl) (by kernel_rfl) (h3489.mem0 M_) hy3627 rfl)) ?_
            refine Z_runs [.int .i64 x3499, .bool (y3627.Target != x3499), .bool (y3627.Target != x3499)] [(0, .slice p3487 x3485.length c3488), (2, .int .i64 x3499), (4, .pointer (some ⟨b3501, 0, none⟩)), (7, .int .i64 s3588), (8, .pointer (some ⟨b3602, 0, none⟩)), (26, .bool false), (30, .bool true), (39, .bool (y3627.Target != x3499))] (fun w_ => by kernel_rfl) (by kernel_rfl) ?_
            rcases gx_bif hm with ⟨hc3628, hm⟩ | ⟨hc3628, hm⟩
            · refine Z_known 39 true (by kernel_rfl) hc3628 ?_
              refine Z_runs [undef, undef, undef, undef, undef, undef, undef, undef, undef, .bool true, .bool true, .bool true] [(0, .slice p3487 x3485.length c3488), (2, .int .i64 x3499), (4, .pointer (some ⟨b3501, 0, none⟩)), (7, .int .i64 s3588), (51, .bool true)] (fun w_ => by kernel_rfl) (by kernel_rfl) ?_
              refine Z_end fun w3629 M3630 => ?_
              obtain rfl := Option.some.inj hm
              exact N_meet fun a ha => ⟨M3630.pick [0] (by kernel_rfl), ha.sub (by kernel_rfl)⟩
            · refine Z_known 39 false (by kernel_rfl) hc3628 ?_
              refine Z_runs [.slice p3487 x3485.length c3488, .pointer (some ⟨b3602, 1, none⟩)] [(0, .slice p3487 x3485.length c3488), (2, .int .i64 x3499), (4, .pointer (some ⟨b3501, 0, none⟩)), (7, .int .i64 s3588), (8, .pointer (some ⟨b3602, 0, none⟩)), (26, .bool false), (30, .bool true), (39, .bool false), (40, .slice p3487 x3485.length c3488), (41, .pointer (some ⟨b3602, 1, none⟩))] (fun w_ => by kernel_rfl) (by kernel_rfl) ?_
              refine Z_val (.int .i64 y3600.Irq) (by kernel_rfl) (fun w_ M_ => (E_load (e := 117) (fr := (0, 0)) _ _ false 1 b3602 1 [.int .i64 y3600.State, .int .i64 y3600.Irq, .int .i64 y3600.Priority] (.int .i64 y3600.Irq) rfl (by kernel_rfl) (by kernel_rfl) (by kernel_rfl) (M_.blk 1 (b := b3602) (o := .cells ⟨[.int .i64 y3600.State, .int .i64 y3600.Irq, .int .i64 y3600.Priority]⟩ 117 (0, 0)) (by kernel_rfl)))) ?_
              obtain ⟨y3631, hy3631, hm⟩ := gx_bind hm
              refine Z_val (elemP p3487 (y3600.Irq.toNat * 2)) (by kernel_rfl) (fun w_ M_ => (E_index (E := encRoute) _ _ _ x3485.length c3488 .i64 y3600.Irq 2 (y := y3631) rfl (by kernel_rfl) (by kernel_rfl) (by kernel_rfl) (h3489.mem0 M_) rfl hy3631)) ?_
              refine Z_val (elemP p3487 (y3600.Irq.toNat * 2 + 0)) (by kernel_rfl) (fun w_ M_ => (E_fieldE (E := encRoute) _ _ 0 (y3600.Irq.toNat * 2) 0 rfl (by kernel_rfl) (by kernel_rfl) (h3489.mem0 M_) hy3631)) ?_
              refine Z_val (.int .i64 y3631.Priority) (by kernel_rfl) (fun w_ M_ => (E_loadE (E := encRoute) _ _ false 1 y3600.Irq 0 (y3600.Irq.toNat * 2 + 0) y3631 (.int .i64 y3631.Priority) rfl (by kernel_rfl) (by kernel_rfl) (by kernel_rfl) (h3489.mem0 M_) hy3631 rfl)) ?_
              refine Z_runs [.pointer (some ⟨b3602, 2, none⟩)] [(0, .slice p3487 x3485.length c3488), (2, .int .i64 x3499), (4, .pointer (some ⟨b3501, 0, none⟩)), (7, .int .i64 s3588), (26, .bool false), (30, .bool true), (39, .bool false), (45, .int .i64 y3631.Priority), (46, .pointer (some ⟨b3602, 2, none⟩))] (fun w_ => by kernel_rfl) (by kernel_rfl) ?_
              refine Z_val (.int .i64 y3600.Priority) (by kernel_rfl) (fun w_ M_ => (E_load (e := 117) (fr := (0, 0)) _ _ false 1 b3602 2 [.int .i64 y3600.State, .int .i64 y3600.Irq, .int .i64 y3600.Priority] (.int .i64 y3600.Priority) rfl (by kernel_rfl) (by kernel_rfl) (by kernel_rfl) (M_.blk 1 (b := b3602) (o := .cells ⟨[.int .i64 y3600.State, .int .i64 y3600.Irq, .int .i64 y3600.Priority]⟩ 117 (0, 0)) (by kernel_rfl)))) ?_
              refine Z_runs [.bool (y3631.Priority != y3600.Priority), .bool (y3631.Priority != y3600.Priority), .bool (y3631.Priority != y3600.Priority), .bool (y3631.Priority != y3600.Priority)] [(0, .slice p3487 x3485.length c3488), (2, .int .i64 x3499), (4, .pointer (some ⟨b3501, 0, none⟩)), (7, .int .i64 s3588), (51, .bool (y3631.Priority != y3600.Priority))] (fun w_ => by kernel_rfl) (by kernel_rfl) ?_
              refine Z_end fun w3632 M3633 => ?_
              obtain rfl := Option.some.inj hm
              exact N_meet fun a ha => ⟨M3633.pick [0] (by kernel_rfl), ha.sub (by kernel_rfl)⟩
          · refine Z_known 30 false (by kernel_rfl) hc3626 ?_
            refine Z_runs [undef, undef, undef, undef, undef, undef, undef, undef, undef, undef, undef, undef, undef, undef, undef, undef, undef, undef, undef, .bool false, .bool false] [(0, .slice p3487 x3485.length c3488), (2, .int .i64 x3499), (4, .pointer (some ⟨b3501, 0, none⟩)), (7, .int .i64 s3588), (51, .bool false)] (fun w_ => by kernel_rfl) (by kernel_rfl) ?_
            refine Z_end fun w3634 M3635 => ?_
            obtain rfl := Option.some.inj hm
            exact N_meet fun a ha => ⟨M3635.pick [0] (by kernel_rfl), ha.sub (by kernel_rfl)⟩
      · intro a3638 w3636 ⟨M3637, hS3639⟩
        refine N_use hS3639 ?_
        have hm := hm3622
        refine N_then ?_
        rcases gx_bif hm with ⟨hc3640, hm⟩ | ⟨hc3640, hm⟩
        · refine G_cond_t (b := o3620) hc3640 (by kernel_rfl) ?_
          refine G_seq ?_
          refine G_region ?_
          refine W_run 1 [(6, .bool false)] w3636 (by kernel_rfl) ?_
          refine W_nil ?_
          refine N_then ?_
          refine G_ret ?_
          refine N_block_ret ?_
          refine N_then_ret ?_
          refine N_then_ret ?_
          obtain rfl := Option.some.inj hm
          obtain rfl := hout3590 _ rfl
          have hm := hmo3597; simp only [Sum.elim_inr] at hm
          refine N_block_ret ?_
          refine N_meet_ret ?_
          refine N_then_ret ?_
          obtain rfl := Option.some.inj hm
          refine N_ret [.bool false] (RVs_cons (RV_tmp (by kernel_rfl)) RVs_nil) ?_
          exact ⟨rfl, M3637.pick [] (by kernel_rfl)⟩
        · refine G_cond_f (b := o3620) hc3640 (by kernel_rfl) ?_
          refine G_skip ?_
          refine N_block ?_
          refine N_then ?_
          refine G_region ?_
          refine W_run 3 [(0, .slice p3487 x3485.length c3488), (2, .int .i64 x3499), (4, .pointer (some ⟨b3501, 0, none⟩)), (7, .int .i64 (w64 (s3588 + 1)))] w3636 (by kernel_rfl) ?_
          refine W_nil ?_
          obtain rfl := Option.some.inj hm
          exact N_loop fun a ha => ⟨_, rfl, M3637.pick [0] (by kernel_rfl), ha.sub (by kernel_rfl)⟩
    · refine G_cond_f (b := (decide (s3588 < (x3490.Slots.length : Int)))) hc3599 (by kernel_rfl) ?_
      refine G_exit ?_
      refine N_then_exit ?_
      refine N_then_exit ?_
      refine N_block_eq ?_
      obtain rfl := Option.some.inj hm
      obtain rfl := hout3590 _ rfl
      exact N_meet fun a ha => ⟨_, rfl, M3593.pick [0] (by kernel_rfl), ha.sub (by kernel_rfl)⟩
  · intro a3641 w3642 ⟨o3598, hout_, M3643, hS3644⟩
    refine N_use hS3644 ?_
    subst hout_
    have hm := hmo3597; simp only [Sum.elim_inl] at hm
    refine N_then ?_
    refine G_seq ?_
    refine G_seq ?_
    refine G_region ?_
    refine W_run 1 [(0, .slice p3487 x3485.length c3488), (2, .int .i64 x3499), (4, .pointer (some ⟨b3501, 0, none⟩)), (9, .int .i64 0)] w3642 (by kernel_rfl) ?_
    refine W_nil ?_
    refine N_then ?_
    obtain ⟨out3712, hw3713, hmo3714⟩ := gx_bind hm
    refine G_meet (fun a w' => ∃ (o3715 : Unit), out3712 = .inl o3715 ∧ Mem [] w w' [] ∧ Sat Tryz.f105.ntmps [] a) ?_ ?_
    · refine G_block ?_
      refine G_while (σ := Int) (ρ := (Unit) ⊕ (Bool)) (fun s3705 a w' => Mem [] w w' [[(b3501, .cells ⟨[.slice p3492 x3490.Slots.length c3493, .slice p3496 x3490.Waiting.length c3497]⟩ 85 (0, 0))]] ∧ Sat Tryz.f105.ntmps [(0, .slice p3487 x3485.length c3488), (2, .int .i64 x3499), (4, .pointer (some ⟨b3501, 0, none⟩)), (9, .int .i64 s3705)] a) hw3713 (fun a ha => ⟨M3643.pick [0] (by kernel_rfl), ha.sub (by kernel_rfl)⟩) ?_
      clear hm
      intro s3705 x3706 hm hout3707 a3708 w3709 ⟨M3710, hS3711⟩
      refine G_use hS3711 ?_
      refine G_seq ?_
      refine G_seq ?_
      refine G_region ?_
      refine W_run 2 [(0, .slice p3487 x3485.length c3488), (2, .int .i64 x3499), (4, .pointer (some ⟨b3501, 0, none⟩)), (9, .int .i64 s3705), (52, .int .i64 s3705), (53, .pointer (some ⟨b3501, 1, none⟩))] w3709 (by kernel_rfl) ?_
      refine W_val (.slice p3496 x3490.Waiting.length c3497) w3709 (by kernel_rfl) (E_load (e := 85) (fr := (0, 0)) _ _ false 1 b3501 1 [.slice p3492 x3490.Slots.length c3493, .slice p3496 x3490.Waiting.length c3497] (.slice p3496 x3490.Waiting.length c3497) rfl (by kernel_rfl) (by kernel_rfl) (by kernel_rfl) (M3710.blk 0 (b := b3501) (o := .cells ⟨[.slice p3492 x3490.Slots.length c3493, .slice p3496 x3490.Waiting.length c3497]⟩ 85 (0, 0)) (by kernel_rfl))) ?_
      refine W_run 2 [(0, .slice p3487 x3485.length c3488), (2, .int .i64 x3499), (4, .pointer (some ⟨b3501, 0, none⟩)), (9, .int .i64 s3705), (56, .bool (decide (s3705 < (x3490.Waiting.length : Int))))] w3709 (by kernel_rfl) ?_
      refine W_nil ?_
      refine N_then ?_
      rcases gx_bif hm with ⟨hc3716, hm⟩ | ⟨hc3716, hm⟩
      · refine G_cond_t (b := (decide (s3705 < (x3490.Waiting.length : Int)))) hc3716 (by kernel_rfl) ?_
        refine G_skip ?_
        refine N_then ?_
        refine G_seq ?_
        refine G_block ?_
        refine G_seq ?_
        refine G_region ?_
        refine W_run 1 [(0, .slice p3487 x3485.length c3488), (2, .int .i64 x3499), (4, .pointer (some ⟨b3501, 0, none⟩)), (9, .int .i64 s3705), (59, .pointer (some ⟨b3501, 1, none⟩))] w3709 (by kernel_rfl) ?_
        refine W_val (.slice p3496 x3490.Waiting.length c3497) w3709 (by kernel_rfl) (E_load (e := 85) (fr := (0, 0)) _ _ false 1 b3501 1 [.slice p3492 x3490.Slots.length c3493, .slice p3496 x3490.Waiting.length c3497] (.slice p3496 x3490.Waiting.length c3497) rfl (by kernel_rfl) (by kernel_rfl) (by kernel_rfl) (M3710.blk 0 (b := b3501) (o := .cells ⟨[.slice p3492 x3490.Slots.length c3493, .slice p3496 x3490.Waiting.length c3497]⟩ 85 (0, 0)) (by kernel_rfl))) ?_
        refine W_run 1 [(0, .slice p3487 x3485.length c3488), (2, .int .i64 x3499), (4, .pointer (some ⟨b3501, 0, none⟩)), (9, .int .i64 s3705), (60, .slice p3496 x3490.Waiting.length c3497), (61, .int .i64 s3705)] w3709 (by kernel_rfl) ?_
        obtain ⟨y3717, hy3717, hm⟩ := gx_bind hm
        refine W_val (elemP p3496 (s3705.toNat * 2)) w3709 (by kernel_rfl) (E_index (E := encWaiter) _ _ _ x3490.Waiting.length c3497 .i64 s3705 2 (y := y3717) rfl (by kernel_rfl) (by kernel_rfl) (by kernel_rfl) (h3498.mem0 M3710) rfl hy3717) ?_
        refine W_val (.agg #[.int .i64 y3717.Irq, .int .i64 y3717.Priority]) w3709 (by kernel_rfl) (E_loadE (E := encWaiter) _ _ true 2 s3705 0 (s3705.toNat * 2) y3717 (.agg #[.int .i64 y3717.Irq, .int .i64 y3717.Priority]) rfl (by kernel_rfl) (by kernel_rfl) (by kernel_rfl) (h3498.mem0 M3710) hy3717 rfl) ?_
        refine W_new (fun b => .pointer (some ⟨b, 0, none⟩)) (.cells ⟨[.int .i64 0, .int .i64 0]⟩ 142 (0, 0)) M3710 rfl (by kernel_rfl) (by kernel_rfl) ?_
        intro b3719 w3720 M3721
        refine W_store _ _ _ true 2 b3719 0 [.int .i64 0, .int .i64 0] 142 (.agg #[.int .i64 y3717.Irq, .int .i64 y3717.Priority]) 1 [.int .i64 y3717.Irq, .int .i64 y3717.Priority] M3721 (by kernel_rfl) rfl (by kernel_rfl) (by kernel_rfl) (by kernel_rfl) (by kernel_rfl) (by kernel_rfl) (by kernel_rfl) (by kernel_rfl) (by kernel_rfl) ?_
        intro w3722 M3723
        refine W_nil ?_
        refine N_then ?_
        refine G_seq ?_
        obtain ⟨o3731, ho3732, hm3733⟩ := gx_bind hm
        refine G_meet (fun a w' => Mem [] w w' [[(b3501, .cells ⟨[.slice p3492 x3490.Slots.length c3493, .slice p3496 x3490.Waiting.length c3497]⟩ 85 (0, 0))]] ∧ Sat Tryz.f105.ntmps [(0, .slice p3487 x3485.length c3488), (2, .int .i64 x3499), (4, .pointer (some ⟨b3501, 0, none⟩)), (9, .int .i64 s3705), (82, .bool o3731)] a) ?_ ?_
        · have hm := ho3732
          refine G_quiet (by kernel_rfl) (by kernel_rfl) M3723 ?_
          refine Z_runs [.slice p3487 x3485.length c3488, .pointer (some ⟨b3719, 0, none⟩)] [(0, .slice p3487 x3485.length c3488), (2, .int .i64 x3499), (4, .pointer (some ⟨b3501, 0, none⟩)), (9, .int .i64 s3705), (10, .pointer (some ⟨b3719, 0, none⟩)), (64, .slice p3487 x3485.length c3488), (65, .pointer (some ⟨b3719, 0, none⟩))] (fun w_ => by kernel_rfl) (by kernel_rfl) ?_
          refine Z_val (.int .i64 y3717.Irq) (by kernel_rfl) (fun w_ M_ => (E_load (e := 142) (fr := (0, 0)) _ _ false 1 b3719 0 [.int .i64 y3717.Irq, .int .i64 y3717.Priority] (.int .i64 y3717.Irq) rfl (by kernel_rfl) (by kernel_rfl) (by kernel_rfl) (M_.blk 1 (b := b3719) (o := .cells ⟨[.int .i64 y3717.Irq, .int .i64 y3717.Priority]⟩ 142 (0, 0)) (by kernel_rfl)))) ?_
          obtain ⟨y3734, hy3734, hm⟩ := gx_bind hm
          refine Z_val (elemP p3487 (y3717.Irq.toNat * 2)) (by kernel_rfl) (fun w_ M_ => (E_index (E := encRoute) _ _ _ x3485.length c3488 .i64 y3717.Irq 2 (y := y3734) rfl (by kernel_rfl) (by kernel_rfl) (by kernel_rfl) (h3489.mem0 M_) rfl hy3734)) ?_
          refine Z_val (elemP p3487 (y3717.Irq.toNat * 2 + 1)) (by kernel_rfl) (fun w_ M_ => (E_fieldE (E := encRoute) _ _ 1 (y3717.Irq.toNat * 2) 1 rfl (by kernel_rfl) (by kernel_rfl) (h3489.mem0 M_) hy3734)) ?_
          refine Z_val (.int .i64 y3734.Target) (by kernel_rfl) (fun w_ M_ => (E_loadE (E := encRoute) _ _ false 1 y3717.Irq 1 (y3717.Irq.toNat * 2 + 1) y3734 (.int .i64 y3734.Target) rfl (by kernel_rfl) (by kernel_rfl) (by kernel_rfl) (h3489.mem0 M_) hy3734 rfl)) ?_
          refine Z_runs [.int .i64 x3499, .bool (y3734.Target != x3499), .bool (y3734.Target != x3499)] [(0, .slice p3487 x3485.length c3488), (2, .int .i64 x3499), (4, .pointer (some ⟨b3501, 0, none⟩)), (9, .int .i64 s3705), (10, .pointer (some ⟨b3719, 0, none⟩)), (72, .bool (y3734.Target != x3499))] (fun w_ => by kernel_rfl) (by kernel_rfl) ?_
          rcases gx_bif hm with ⟨hc3735, hm⟩ | ⟨hc3735, hm⟩
          · refine Z_known 72 true (by kernel_rfl) hc3735 ?_
            refine Z_runs [undef, undef, undef, undef, undef, undef, undef, undef, undef, .bool true] [(0, .slice p3487 x3485.length c3488), (2, .int .i64 x3499), (4, .pointer (some ⟨b3501, 0, none⟩)), (9, .int .i64 s3705), (82, .bool true)] (fun w_ => by kernel_rfl) (by kernel_rfl) ?_
            refine Z_end fun w3736 M3737 => ?_
            obtain rfl := Option.some.inj hm
            exact N_meet fun a ha => ⟨M3737.pick [0] (by kernel_rfl), ha.sub (by kernel_rfl)⟩
          · refine Z_known 72 false (by kernel_rfl) hc3735 ?_
            refine Z_runs [.slice p3487 x3485.length c3488, .pointer (some ⟨b3719, 0, none⟩)] [(0, .slice p3487 x3485.length c3488), (2, .int .i64 x3499), (4, .pointer (some ⟨b3501, 0, none⟩)), (9, .int .i64 s3705), (10, .pointer (some ⟨b3719, 0, none⟩)), (72, .bool false), (73, .slice p3487 x3485.length c3488), (74, .pointer (some ⟨b3719, 0, none⟩))] (fun w_ => by kernel_rfl) (by kernel_rfl) ?_
            refine Z_val (.int .i64 y3717.Irq) (by kernel_rfl) (fun w_ M_ => (E_load (e := 142) (fr := (0, 0)) _ _ false 1 b3719 0 [.int .i64 y3717.Irq, .int .i64 y3717.Priority] (.int .i64 y3717.Irq) rfl (by kernel_rfl) (by kernel_rfl) (by kernel_rfl) (M_.blk 1 (b := b3719) (o := .cells ⟨[.int .i64 y3717.Irq, .int .i64 y3717.Priority]⟩ 142 (0, 0)) (by kernel_rfl)))) ?_
            obtain ⟨y3738, hy3738, hm⟩ := gx_bind hm
            refine Z_val (elemP p3487 (y3717.Irq.toNat * 2)) (by kernel_rfl) (fun w_ M_ => (E_index (E := encRoute) _ _ _ x3485.length c3488 .i64 y3717.Irq 2 (y := y3738) rfl (by kernel_rfl) (by kernel_rfl) (by kernel_rfl) (h3489.mem0 M_) rfl hy3738)) ?_
            refine Z_val (elemP p3487 (y3717.Irq.toNat * 2 + 0)) (by kernel_rfl) (fun w_ M_ => (E_fieldE (E := encRoute) _ _ 0 (y3717.Irq.toNat * 2) 0 rfl (by kernel_rfl) (by kernel_rfl) (h3489.mem0 M_) hy3738)) ?_
            refine Z_val (.int .i64 y3738.Priority) (by kernel_rfl) (fun w_ M_ => (E_loadE (E := encRoute) _ _ false 1 y3717.Irq 0 (y3717.Irq.toNat * 2 + 0) y3738 (.int .i64 y3738.Priority) rfl (by kernel_rfl) (by kernel_rfl) (by kernel_rfl) (h3489.mem0 M_) hy3738 rfl)) ?_
            refine Z_runs [.pointer (some ⟨b3719, 1, none⟩)] [(0, .slice p3487 x3485.length c3488), (2, .int .i64 x3499), (4, .pointer (some ⟨b3501, 0, none⟩)), (9, .int .i64 s3705), (72, .bool false), (78, .int .i64 y3738.Priority), (79, .pointer (some ⟨b3719, 1, none⟩))] (fun w_ => by kernel_rfl) (by kernel_rfl) ?_
            refine Z_val (.int .i64 y3717.Priority) (by kernel_rfl) (fun w_ M_ => (E_load (e := 142) (fr := (0, 0)) _ _ false 1 b3719 1 [.int .i64 y3717.Irq, .int .i64 y3717.Priority] (.int .i64 y3717.Priority) rfl (by kernel_rfl) (by kernel_rfl) (by kernel_rfl) (M_.blk 1 (b := b3719) (o := .cells ⟨[.int .i64 y3717.Irq, .int .i64 y3717.Priority]⟩ 142 (0, 0)) (by kernel_rfl)))) ?_
            refine Z_runs [.bool (y3738.Priority != y3717.Priority), .bool (y3738.Priority != y3717.Priority)] [(0, .slice p3487 x3485.length c3488), (2, .int .i64 x3499), (4, .pointer (some ⟨b3501, 0, none⟩)), (9, .int .i64 s3705), (82, .bool (y3738.Priority != y3717.Priority))] (fun w_ => by kernel_rfl) (by kernel_rfl) ?_
            refine Z_end fun w3739 M3740 => ?_
            obtain rfl := Option.some.inj hm
            exact N_meet fun a ha => ⟨M3740.pick [0] (by kernel_rfl), ha.sub (by kernel_rfl)⟩
        · intro a3743 w3741 ⟨M3742, hS3744⟩
          refine N_use hS3744 ?_
          have hm := hm3733
          refine N_then ?_
          rcases gx_bif hm with ⟨hc3745, hm⟩ | ⟨hc3745, hm⟩
          · refine G_cond_t (b := o3731) hc3745 (by kernel_rfl) ?_
            refine G_seq ?_
            refine G_region ?_
            refine W_run 1 [(6, .bool false)] w3741 (by kernel_rfl) ?_
            refine W_nil ?_
            refine N_then ?_
            refine G_ret ?_
            refine N_block_ret ?_
            refine N_then_ret ?_
            refine N_then_ret ?_
            obtain rfl := Option.some.inj hm
            obtain rfl := hout3707 _ rfl
            have hm := hmo3714; simp only [Sum.elim_inr] at hm
            refine N_block_ret ?_
            refine N_meet_ret ?_
            refine N_then_ret ?_
            obtain rfl := Option.some.inj hm
            refine N_ret [.bool false] (RVs_cons (RV_tmp (by kernel_rfl)) RVs_nil) ?_
            exact ⟨rfl, M3742.pick [] (by kernel_rfl)⟩
          · refine G_cond_f (b := o3731) hc3745 (by kernel_rfl) ?_
            refine G_skip ?_
            refine N_block ?_
            refine N_then ?_
            refine G_region ?_
            refine W_run 3 [(0, .slice p3487 x3485.length c3488), (2, .int .i64 x3499), (4, .pointer (some ⟨b3501, 0, none⟩)), (9, .int .i64 (w64 (s3705 + 1)))] w3741 (by kernel_rfl) ?_
            refine W_nil ?_
            obtain rfl := Option.some.inj hm
            exact N_loop fun a ha => ⟨_, rfl, M3742.pick [0] (by kernel_rfl), ha.sub (by kernel_rfl)⟩
      · refine G_cond_f (b := (decide (s3705 < (x3490.Waiting.length : Int)))) hc3716 (by kernel_rfl) ?_
        refine G_exit ?_
        refine N_then_exit ?_
        refine N_then_exit ?_
        refine N_block_eq ?_
        obtain rfl := Option.some.inj hm
        obtain rfl := hout3707 _ rfl
        exact N_meet fun a ha => ⟨_, rfl, M3710.pick [] (by kernel_rfl), ha.sub (by kernel_rfl)⟩
    · intro a3746 w3747 ⟨o3715, hout_, M3748, hS3749⟩
      refine N_use hS3749 ?_
      subst hout_
      have hm := hmo3714; simp only [Sum.elim_inl] at hm
      refine N_then ?_
      refine G_seq ?_
      refine G_region ?_
      refine W_run 1 [(6, .bool true)] w3747 (by kernel_rfl) ?_
      refine W_nil ?_
      refine N_then ?_
      refine G_ret ?_
      obtain rfl := Option.some.inj hm
      refine N_ret [.bool true] (RVs_cons (RV_tmp (by kernel_rfl)) RVs_nil) ?_
      exact ⟨rfl, M3748.pick [] (by kernel_rfl)⟩
theorem c_s_l21Good (w : World) (x1109 : Machine) (p1111 : Option Addr) (c1112 : Nat) (h1113 : rdS encRoute w x1109.Routes p1111 c1112) (p1115 : Option Addr) (c1116 : Nat) (h1117 : rdS Gx.encB w x1109.Enabled p1115 c1116) (p1119 : Option Addr) (c1120 : Nat) (h1121 : rdS Gx.encB w x1109.Raised p1119 c1120) (p1123 : Option Addr) (c1124 : Nat) (h1125 : rdD deepInterface w x1109.Cpus p1123 c1124) {r : Bool} (hm : M.s_l21Good x1109 = some r) :
    Calls Tryz.prog 54 #[.agg #[.slice p1111 x1109.Routes.length c1112, .slice p1115 x1109.Enabled.length c1116, .slice p1119 x1109.Raised.length c1120, .slice p1123 x1109.Cpus.length c1124]] w fun e w' => e = .returned (.bool r) ∧ Mem [] w w' [] := by
  unfold M.s_l21Good at hm
  refine C_enter Tryz.func54 rfl (by kernel_rfl) ?_
  have M0 := Mem.refl [] w
  refine G_seq ?_
  refine G_region ?_
  refine W_new (fun b => .pointer (some ⟨b, 0, none⟩)) (.cells ⟨[.slice p1111 x1109.Routes.length c1112, .slice p1115 x1109.Enabled.length c1116, .slice p1119 x1109.Raised.length c1120, .slice p1123 x1109.Cpus.length c1124]⟩ 32 (0, 0)) M0 rfl (by kernel_rfl) (by kernel_rfl) ?_
  intro b1127 w1128 M1129
  refine W_run 1 [(1, .pointer (some ⟨b1127, 0, none⟩))] w1128 (by kernel_rfl) ?_
  refine W_nil ?_
  refine N_then ?_
  refine G_seq ?_
  refine G_seq ?_
  obtain ⟨o1284, ho1285, hm1286⟩ := gx_bind hm
  refine G_meet (fun a w' => Mem [] w w' [[(b1127, .cells ⟨[.slice p1111 x1109.Routes.length c1112, .slice p1115 x1109.Enabled.length c1116, .slice p1119 x1109.Raised.length c1120, .slice p1123 x1109.Cpus.length c1124]⟩ 32 (0, 0))]] ∧ Sat Tryz.f54.ntmps [(1, .pointer (some ⟨b1127, 0, none⟩)), (22, .bool o1284)] a) ?_ ?_
  · have hm := ho1285
    refine G_region ?_
    refine W_run 1 [(1, .pointer (some ⟨b1127, 0, none⟩)), (4, .pointer (some ⟨b1127, 0, none⟩))] w1128 (by kernel_rfl) ?_
    refine W_val (.slice p1111 x1109.Routes.length c1112) w1128 (by kernel_rfl) (E_load (e := 32) (fr := (0, 0)) _ _ false 1 b1127 0 [.slice p1111 x1109.Routes.length c1112, .slice p1115 x1109.Enabled.length c1116, .slice p1119 x1109.Raised.length c1120, .slice p1123 x1109.Cpus.length c1124] (.slice p1111 x1109.Routes.length c1112) rfl (by kernel_rfl) (by kernel_rfl) (by kernel_rfl) (M1129.blk 0 (b := b1127) (o := .cells ⟨[.slice p1111 x1109.Routes.length c1112, .slice p1115 x1109.Enabled.length c1116, .slice p1119 x1109.Raised.length c1120, .slice p1123 x1109.Cpus.length c1124]⟩ 32 (0, 0)) (by kernel_rfl))) ?_
    refine W_run 1 [(1, .pointer (some ⟨b1127, 0, none⟩)), (5, .slice p1111 x1109.Routes.length c1112), (6, .pointer (some ⟨b1127, 3, none⟩))] w1128 (by kernel_rfl) ?_
    refine W_val (.slice p1123 x1109.Cpus.length c1124) w1128 (by kernel_rfl) (E_load (e := 32) (fr := (0, 0)) _ _ false 1 b1127 3 [.slice p1111 x1109.Routes.length c1112, .slice p1115 x1109.Enabled.length c1116, .slice p1119 x1109.Raised.length c1120, .slice p1123 x1109.Cpus.length c1124] (.slice p1123 x1109.Cpus.length c1124) rfl (by kernel_rfl) (by kernel_rfl) (by kernel_rfl) (M1129.blk 0 (b := b1127) (o := .cells ⟨[.slice p1111 x1109.Routes.length c1112, .slice p1115 x1109.Enabled.length c1116, .slice p1119 x1109.Raised.length c1120, .slice p1123 x1109.Cpus.length c1124]⟩ 32 (0, 0)) (by kernel_rfl))) ?_
    refine W_run 1 [(1, .pointer (some ⟨b1127, 0, none⟩)), (5, .slice p1111 x1109.Routes.length c1112), (8, .int .i64 (x1109.Cpus.length : Int))] w1128 (by kernel_rfl) ?_
    obtain ⟨r1287, hr1287, hm⟩ := gx_bind hm
    refine W_call 99 #[.slice p1111 x1109.Routes.length c1112, .int .i64 (x1109.Cpus.length : Int)] (by kernel_rfl) (by kernel_rfl) ?_
    refine (c_s_l21Routes w1128 x1109.Routes p1111 c1112 (h1113.mem0 M1129) (x1109.Cpus.length : Int) hr1287).mono ?_
    rintro e_ w1288 ⟨rfl, K1289⟩
    have M1290 := M1129.call0 K1289
    refine ⟨_, rfl, ?_⟩
    refine W_run 2 [(1, .pointer (some ⟨b1127, 0, none⟩)), (11, .bool (!r1287))] w1288 (by kernel_rfl) ?_
    rcases gx_bif hm with ⟨hc1291, hm⟩ | ⟨hc1291, hm⟩
    · refine W_known 11 true (by kernel_rfl) hc1291 ?_
      refine W_run 11 [(1, .pointer (some ⟨b1127, 0, none⟩)), (22, .bool true)] w1288 (by kernel_rfl) ?_
      refine W_nil ?_
      obtain rfl := Option.some.inj hm
      exact N_meet fun a ha => ⟨M1290.pick [0] (by kernel_rfl), ha.sub (by kernel_rfl)⟩
    · refine W_known 11 false (by kernel_rfl) hc1291 ?_
      refine W_run 1 [(1, .pointer (some ⟨b1127, 0, none⟩)), (11, .bool false), (12, .pointer (some ⟨b1127, 1, none⟩))] w1288 (by kernel_rfl) ?_
      refine W_val (.slice p1115 x1109.Enabled.length c1116) w1288 (by kernel_rfl) (E_load (e := 32) (fr := (0, 0)) _ _ false 1 b1127 1 [.slice p1111 x1109.Routes.length c1112, .slice p1115 x1109.Enabled.length c1116, .slice p1119 x1109.Raised.length c1120, .slice p1123 x1109.Cpus.length c1124] (.slice p1115 x1109.Enabled.length c1116) rfl (by kernel_rfl) (by kernel_rfl) (by kernel_rfl) (M1290.blk 0 (b := b1127) (o := .cells ⟨[.slice p1111 x1109.Routes.length c1112, .slice p1115 x1109.Enabled.length c1116, .slice p1119 x1109.Raised.length c1120, .slice p1123 x1109.Cpus.length c1124]⟩ 32 (0, 0)) (by kernel_rfl))) ?_
      refine W_run 4 [(1, .pointer (some ⟨b1127, 0, none⟩)), (17, .bool ((x1109.Enabled.length : Int) != 8))] w1288 (by kernel_rfl) ?_
      rcases gx_bif hm with ⟨hc1292, hm⟩ | ⟨hc1292, hm⟩
      · refine W_known 17 true (by kernel_rfl) hc1292 ?_
        refine W_run 5 [(1, .pointer (some ⟨b1127, 0, none⟩)), (22, .bool true)] w1288 (by kernel_rfl) ?_
        refine W_nil ?_
        obtain rfl := Option.some.inj hm
        exact N_meet fun a ha => ⟨M1290.pick [0] (by kernel_rfl), ha.sub (by kernel_rfl)⟩
      · refine W_known 17 false (by kernel_rfl) hc1292 ?_
        refine W_run 1 [(1, .pointer (some ⟨b1127, 0, none⟩)), (17, .bool false), (18, .pointer (some ⟨b1127, 2, none⟩))] w1288 (by kernel_rfl) ?_
        refine W_val (.slice p1119 x1109.Raised.length c1120) w1288 (by kernel_rfl) (E_load (e := 32) (fr := (0, 0)) _ _ false 1 b1127 2 [.slice p1111 x1109.Routes.length c1112, .slice p1115 x1109.Enabled.length c1116, .slice p1119 x1109.Raised.length c1120, .slice p1123 x1109.Cpus.length c1124] (.slice p1119 x1109.Raised.length c1120) rfl (by kernel_rfl) (by kernel_rfl) (by kernel_rfl) (M1290.blk 0 (b := b1127) (o := .cells ⟨[.slice p1111 x1109.Routes.length c1112, .slice p1115 x1109.Enabled.length c1116, .slice p1119 x1109.Raised.length c1120, .slice p1123 x1109.Cpus.length c1124]⟩ 32 (0, 0)) (by kernel_rfl))) ?_
        refine W_run 3 [(1, .pointer (some ⟨b1127, 0, none⟩)), (22, .bool ((x1109.Raised.length : Int) != 8))] w1288 (by kernel_rfl) ?_
        refine W_nil ?_
        obtain rfl := Option.some.inj hm
        exact N_meet fun a ha => ⟨M1290.pick [0] (by kernel_rfl), ha.sub (by kernel_rfl)⟩
  · intro a1295 w1293 ⟨M1294, hS1296⟩
    refine N_use hS1296 ?_
    have hm := hm1286
    refine N_then ?_
    rcases gx_bif hm with ⟨hc1297, hm⟩ | ⟨hc1297, hm⟩
    · refine G_cond_t (b := o1284) hc1297 (by kernel_rfl) ?_
      refine G_seq ?_
      refine G_region ?_
      refine W_run 1 [(2, .bool false)] w1293 (by kernel_rfl) ?_
      refine W_nil ?_
      refine N_then ?_
      refine G_ret ?_
      refine N_then_ret ?_
      obtain rfl := Option.some.inj hm
      refine N_ret [.bool false] (RVs_cons (RV_tmp (by kernel_rfl)) RVs_nil) ?_
      exact ⟨rfl, M1294.pick [] (by kernel_rfl)⟩
    · refine G_cond_f (b := o1284) hc1297 (by kernel_rfl) ?_
      refine G_skip ?_
      refine N_then ?_
      refine G_seq ?_
      refine G_seq ?_
      refine G_region ?_
      refine W_run 1 [(1, .pointer (some ⟨b1127, 0, none⟩)), (3, .int .i64 0)] w1293 (by kernel_rfl) ?_
      refine W_nil ?_
      refine N_then ?_
      obtain ⟨out3867, hw3868, hmo3869⟩ := gx_bind hm
      refine G_meet (fun a w' => ∃ (o3870 : Unit), out3867 = .inl o3870 ∧ Mem [] w w' [] ∧ Sat Tryz.f54.ntmps [] a) ?_ ?_
      · refine G_block ?_
        refine G_while (σ := Int) (ρ := (Unit) ⊕ (Bool)) (fun s3860 a w' => Mem [] w w' [[(b1127, .cells ⟨[.slice p1111 x1109.Routes.length c1112, .slice p1115 x1109.Enabled.length c1116, .slice p1119 x1109.Raised.length c1120, .slice p1123 x1109.Cpus.length c1124]⟩ 32 (0, 0))]] ∧ Sat Tryz.f54.ntmps [(1, .pointer (some ⟨b1127, 0, none⟩)), (3, .int .i64 s3860)] a) hw3868 (fun a ha => ⟨M1294.pick [0] (by kernel_rfl), ha.sub (by kernel_rfl)⟩) ?_
        clear hm
        intro s3860 x3861 hm hout3862 a3863 w3864 ⟨M3865, hS3866⟩
        refine G_use hS3866 ?_
        refine G_seq ?_
        refine G_seq ?_
        refine G_region ?_
        refine W_run 2 [(1, .pointer (some ⟨b1127, 0, none⟩)), (3, .int .i64 s3860), (23, .int .i64 s3860), (24, .pointer (some ⟨b1127, 3, none⟩))] w3864 (by kernel_rfl) ?_
        refine W_val (.slice p1123 x1109.Cpus.length c1124) w3864 (by kernel_rfl) (E_load (e := 32) (fr := (0, 0)) _ _ false 1 b1127 3 [.slice p1111 x1109.Routes.length c1112, .slice p1115 x1109.Enabled.length c1116, .slice p1119 x1109.Raised.length c1120, .slice p1123 x1109.Cpus.length c1124] (.slice p1123 x1109.Cpus.length c1124) rfl (by kernel_rfl) (by kernel_rfl) (by kernel_rfl) (M3865.blk 0 (b := b1127) (o := .cells ⟨[.slice p1111 x1109.Routes.length c1112, .slice p1115 x1109.Enabled.length c1116, .slice p1119 x1109.Raised.length c1120, .slice p1123 x1109.Cpus.length c1124]⟩ 32 (0, 0)) (by kernel_rfl))) ?_
        refine W_run 2 [(1, .pointer (some ⟨b1127, 0, none⟩)), (3, .int .i64 s3860), (27, .bool (decide (s3860 < (x1109.Cpus.length : Int))))] w3864 (by kernel_rfl) ?_
        refine W_nil ?_
        refine N_then ?_
        rcases gx_bif hm with ⟨hc3871, hm⟩ | ⟨hc3871, hm⟩
        · refine G_cond_t (b := (decide (s3860 < (x1109.Cpus.length : Int)))) hc3871 (by kernel_rfl) ?_
          refine G_skip ?_
          refine N_then ?_
          refine G_seq ?_
          refine G_block ?_
          refine G_seq ?_
          obtain ⟨o3901, ho3902, hm3903⟩ := gx_bind hm
          refine G_meet (fun a w' => Mem [] w w' [[(b1127, .cells ⟨[.slice p1111 x1109.Routes.length c1112, .slice p1115 x1109.Enabled.length c1116, .slice p1119 x1109.Raised.length c1120, .slice p1123 x1109.Cpus.length c1124]⟩ 32 (0, 0))]] ∧ Sat Tryz.f54.ntmps [(1, .pointer (some ⟨b1127, 0, none⟩)), (3, .int .i64 s3860), (49, .bool o3901)] a) ?_ ?_
          · have hm := ho3902
            refine G_quiet (by kernel_rfl) (by kernel_rfl) M3865 ?_
            refine Z_runs [.pointer (some ⟨b1127, 3, none⟩)] [(1, .pointer (some ⟨b1127, 0, none⟩)), (3, .int .i64 s3860), (30, .pointer (some ⟨b1127, 3, none⟩))] (fun w_ => by kernel_rfl) (by kernel_rfl) ?_
            refine Z_val (.slice p1123 x1109.Cpus.length c1124) (by kernel_rfl) (fun w_ M_ => (E_load (e := 32) (fr := (0, 0)) _ _ false 1 b1127 3 [.slice p1111 x1109.Routes.length c1112, .slice p1115 x1109.Enabled.length c1116, .slice p1119 x1109.Raised.length c1120, .slice p1123 x1109.Cpus.length c1124] (.slice p1123 x1109.Cpus.length c1124) rfl (by kernel_rfl) (by kernel_rfl) (by kernel_rfl) (M_.blk 0 (b := b1127) (o := .cells ⟨[.slice p1111 x1109.Routes.length c1112, .slice p1115 x1109.Enabled.length c1116, .slice p1119 x1109.Raised.length c1120, .slice p1123 x1109.Cpus.length c1124]⟩ 32 (0, 0)) (by kernel_rfl)))) ?_
            refine Z_runs [.int .i64 s3860] [(1, .pointer (some ⟨b1127, 0, none⟩)), (3, .int .i64 s3860), (31, .slice p1123 x1109.Cpus.length c1124), (32, .int .i64 s3860)] (fun w_ => by kernel_rfl) (by kernel_rfl) ?_
            obtain ⟨y3904, hy3904, hm⟩ := gx_bind hm
            obtain ⟨zs3905, hz3906, hr3907, hi3908⟩ := id h1125
            obtain ⟨g3909, hg3910⟩ := gxIdx_fst hz3906 hy3904
            refine Z_val (elemP p1123 (s3860.toNat * 4)) (by kernel_rfl) (fun w_ M_ => (E_index (E := deepInterface.E) _ _ _ x1109.Cpus.length c1124 .i64 s3860 4 (y := (y3904, g3909)) rfl (by kernel_rfl) (by kernel_rfl) (by kernel_rfl) (hr3907.mem0 M_) (len_fst hz3906) hg3910)) ?_
            refine Z_val (.agg #[.int .i64 y3904.Mask, .slice ((g3909 0).1) y3904.Stack.length ((g3909 0).2), .slice ((g3909 1).1) y3904.Queue.Slots.length ((g3909 1).2), .slice ((g3909 2).1) y3904.Queue.Waiting.length ((g3909 2).2)]) (by kernel_rfl) (fun w_ M_ => (E_loadE (E := deepInterface.E) _ _ true 4 s3860 0 (s3860.toNat * 4) (y3904, g3909) (.agg #[.int .i64 y3904.Mask, .slice ((g3909 0).1) y3904.Stack.length ((g3909 0).2), .slice ((g3909 1).1) y3904.Queue.Slots.length ((g3909 1).2), .slice ((g3909 2).1) y3904.Queue.Waiting.length ((g3909 2).2)]) rfl (by kernel_rfl) (by kernel_rfl) (by kernel_rfl) (hr3907.mem0 M_) hg3910 rfl)) ?_
            obtain ⟨r3914, hr3914, hm⟩ := gx_bind hm
            refine Z_call 104 #[.agg #[.int .i64 y3904.Mask, .slice ((g3909 0).1) y3904.Stack.length ((g3909 0).2), .slice ((g3909 1).1) y3904.Queue.Slots.length ((g3909 1).2), .slice ((g3909 2).1) y3904.Queue.Waiting.length ((g3909 2).2)]] (.bool r3914) (by kernel_rfl) (fun w_ => by kernel_rfl) (fun w_ M_ => (c_s_l10Good w_ (⟨y3904.Mask, y3904.Stack, (⟨y3904.Queue.Slots, y3904.Queue.Waiting⟩ : Queue)⟩ : Interface) ((g3909 0).1) ((g3909 0).2) ((hi3908.mem0 M_).at_ hg3910 0 ⟨Int, Gx.encI, y3904.Stack, (g3909 0).1, (g3909 0).2⟩ (by kernel_rfl)) ((g3909 1).1) ((g3909 1).2) ((hi3908.mem0 M_).at_ hg3910 1 ⟨Slot, encSlot, y3904.Queue.Slots, (g3909 1).1, (g3909 1).2⟩ (by kernel_rfl)) ((g3909 2).1) ((g3909 2).2) ((hi3908.mem0 M_).at_ hg3910 2 ⟨Waiter, encWaiter, y3904.Queue.Waiting, (g3909 2).1, (g3909 2).2⟩ (by kernel_rfl)) hr3914).mono fun e w2_ h_ => ⟨h_.1, M_.call0 h_.2⟩) ?_
            refine Z_runs [.bool (!r3914), .bool (!r3914)] [(1, .pointer (some ⟨b1127, 0, none⟩)), (3, .int .i64 s3860), (37, .bool (!r3914))] (fun w_ => by kernel_rfl) (by kernel_rfl) ?_
            rcases gx_bif hm with ⟨hc3918, hm⟩ | ⟨hc3918, hm⟩
            · refine Z_known 37 true (by kernel_rfl) hc3918 ?_
              refine Z_runs [undef, undef, undef, undef, undef, undef, undef, undef, undef, undef, undef, .bool true] [(1, .pointer (some ⟨b1127, 0, none⟩)), (3, .int .i64 s3860), (49, .bool true)] (fun w_ => by kernel_rfl) (by kernel_rfl) ?_
              refine Z_end fun w3919 M3920 => ?_
              obtain rfl := Option.some.inj hm
              exact N_meet fun a ha => ⟨M3920.pick [0] (by kernel_rfl), ha.sub (by kernel_rfl)⟩
            · refine Z_known 37 false (by kernel_rfl) hc3918 ?_
              refine Z_runs [.pointer (some ⟨b1127, 0, none⟩)] [(1, .pointer (some ⟨b1127, 0, none⟩)), (3, .int .i64 s3860), (37, .bool false), (38, .pointer (some ⟨b1127, 0, none⟩))] (fun w_ => by kernel_rfl) (by kernel_rfl) ?_
              refine Z_val (.slice p1111 x1109.Routes.length c1112) (by kernel_rfl) (fun w_ M_ => (E_load (e := 32) (fr := (0, 0)) _ _ false 1 b1127 0 [.slice p1111 x1109.Routes.length c1112, .slice p1115 x1109.Enabled.length c1116, .slice p1119 x1109.Raised.length c1120, .slice p1123 x1109.Cpus.length c1124] (.slice p1111 x1109.Routes.length c1112) rfl (by kernel_rfl) (by kernel_rfl) (by kernel_rfl) (M_.blk 0 (b := b1127) (o := .cells ⟨[.slice p1111 x1109.Routes.length c1112, .slice p1115 x1109.Enabled.length c1116, .slice p1119 x1109.Raised.length c1120, .slice p1123 x1109.Cpus.length c1124]⟩ 32 (0, 0)) (by kernel_rfl)))) ?_
              refine Z_runs [.pointer (some ⟨b1127, 3, none⟩)] [(1, .pointer (some ⟨b1127, 0, none⟩)), (3, .int .i64 s3860), (37, .bool false), (39, .slice p1111 x1109.Routes.length c1112), (40, .pointer (some ⟨b1127, 3, none⟩))] (fun w_ => by kernel_rfl) (by kernel_rfl) ?_
              refine Z_val (.slice p1123 x1109.Cpus.length c1124) (by kernel_rfl) (fun w_ M_ => (E_load (e := 32) (fr := (0, 0)) _ _ false 1 b1127 3 [.slice p1111 x1109.Routes.length c1112, .slice p1115 x1109.Enabled.length c1116, .slice p1119 x1109.Raised.length c1120, .slice p1123 x1109.Cpus.length c1124] (.slice p1123 x1109.Cpus.length c1124) rfl (by kernel_rfl) (by kernel_rfl) (by kernel_rfl) (M_.blk 0 (b := b1127) (o := .cells ⟨[.slice p1111 x1109.Routes.length c1112, .slice p1115 x1109.Enabled.length c1116, .slice p1119 x1109.Raised.length c1120, .slice p1123 x1109.Cpus.length c1124]⟩ 32 (0, 0)) (by kernel_rfl)))) ?_
              refine Z_runs [.int .i64 s3860] [(1, .pointer (some ⟨b1127, 0, none⟩)), (3, .int .i64 s3860), (37, .bool false), (39, .slice p1111 x1109.Routes.length c1112), (41, .slice p1123 x1109.Cpus.length c1124), (42, .int .i64 s3860)] (fun w_ => by kernel_rfl) (by kernel_rfl) ?_
              obtain ⟨y3921, hy3921, hm⟩ := gx_bind hm
              obtain ⟨g3922, hg3923⟩ := gxIdx_fst hz3906 hy3921
              refine Z_val (elemP p1123 (s3860.toNat * 4)) (by kernel_rfl) (fun w_ M_ => (E_index (E := deepInterface.E) _ _ _ x1109.Cpus.length c1124 .i64 s3860 4 (y := (y3921, g3922)) rfl (by kernel_rfl) (by kernel_rfl) (by kernel_rfl) (hr3907.mem0 M_) (len_fst hz3906) hg3923)) ?_
              refine Z_val (elemP p1123 (s3860.toNat * 4 + 2)) (by kernel_rfl) (fun w_ M_ => (E_fieldE (E := deepInterface.E) _ _ 2 (s3860.toNat * 4) 2 rfl (by kernel_rfl) (by kernel_rfl) (hr3907.mem0 M_) hg3923)) ?_
              refine Z_val (.agg #[.slice ((g3922 1).1) y3921.Queue.Slots.length ((g3922 1).2), .slice ((g3922 2).1) y3921.Queue.Waiting.length ((g3922 2).2)]) (by kernel_rfl) (fun w_ M_ => (E_loadE (E := deepInterface.E) _ _ true 2 s3860 2 (s3860.toNat * 4 + 2) (y3921, g3922) (.agg #[.slice ((g3922 1).1) y3921.Queue.Slots.length ((g3922 1).2), .slice ((g3922 2).1) y3921.Queue.Waiting.length ((g3922 2).2)]) rfl (by kernel_rfl) (by kernel_rfl) (by kernel_rfl) (hr3907.mem0 M_) hg3923 rfl)) ?_
              refine Z_runs [.int .i64 s3860] [(1, .pointer (some ⟨b1127, 0, none⟩)), (3, .int .i64 s3860), (37, .bool false), (39, .slice p1111 x1109.Routes.length c1112), (45, .agg #[.slice ((g3922 1).1) y3921.Queue.Slots.length ((g3922 1).2), .slice ((g3922 2).1) y3921.Queue.Waiting.length ((g3922 2).2)]), (46, .int .i64 s3860)] (fun w_ => by kernel_rfl) (by kernel_rfl) ?_
              obtain ⟨r3927, hr3927, hm⟩ := gx_bind hm
              refine Z_call 105 #[.slice p1111 x1109.Routes.length c1112, .agg #[.slice ((g3922 1).1) y3921.Queue.Slots.length ((g3922 1).2), .slice ((g3922 2).1) y3921.Queue.Waiting.length ((g3922 2).2)], .int .i64 s3860] (.bool r3927) (by kernel_rfl) (fun w_ => by kernel_rfl) (fun w_ M_ => (c_s_l21Queue w_ x1109.Routes p1111 c1112 (h1113.mem0 M_) (⟨y3921.Queue.Slots, y3921.Queue.Waiting⟩ : Queue) ((g3922 1).1) ((g3922 1).2) ((hi3908.mem0 M_).at_ hg3923 1 ⟨Slot, encSlot, y3921.Queue.Slots, (g3922 1).1, (g3922 1).2⟩ (by kernel_rfl)) ((g3922 2).1) ((g3922 2).2) ((hi3908.mem0 M_).at_ hg3923 2 ⟨Waiter, encWaiter, y3921.Queue.Waiting, (g3922 2).1, (g3922 2).2⟩ (by kernel_rfl)) s3860 hr3927).mono fun e w2_ h_ => ⟨h_.1, M_.call0 h_.2⟩) ?_
              refine Z_runs [.bool (!r3927), .bool (!r3927)] [(1, .pointer (some ⟨b1127, 0, none⟩)), (3, .int .i64 s3860), (49, .bool (!r3927))] (fun w_ => by kernel_rfl) (by kernel_rfl) ?_
              refine Z_end fun w3931 M3932 => ?_
              obtain rfl := Option.some.inj hm
              exact N_meet fun a ha => ⟨M3932.pick [0] (by kernel_rfl), ha.sub (by kernel_rfl)⟩
          · intro a3935 w3933 ⟨M3934, hS3936⟩
            refine N_use hS3936 ?_
            have hm := hm3903
            refine N_then ?_
            rcases gx_bif hm with ⟨hc3937, hm⟩ | ⟨hc3937, hm⟩
            · refine G_cond_t (b := o3901) hc3937 (by kernel_rfl) ?_
              refine G_seq ?_
              refine G_region ?_
              refine W_run 1 [(2, .bool false)] w3933 (by kernel_rfl) ?_
              refine W_nil ?_
              refine N_then ?_
              refine G_ret ?_
              refine N_block_ret ?_
              refine N_then_ret ?_
              refine N_then_ret ?_
              obtain rfl := Option.some.inj hm
              obtain rfl := hout3862 _ rfl
              have hm := hmo3869; simp only [Sum.elim_inr] at hm
              refine N_block_ret ?_
              refine N_meet_ret ?_
              refine N_then_ret ?_
              obtain rfl := Option.some.inj hm
              refine N_ret [.bool false] (RVs_cons (RV_tmp (by kernel_rfl)) RVs_nil) ?_
              exact ⟨rfl, M3934.pick [] (by kernel_rfl)⟩
            · refine G_cond_f (b := o3901) hc3937 (by kernel_rfl) ?_
              refine G_skip ?_
              refine N_block ?_
              refine N_then ?_
              refine G_region ?_
              refine W_run 3 [(1, .pointer (some ⟨b1127, 0, none⟩)), (3, .int .i64 (w64 (s3860 + 1)))] w3933 (by kernel_rfl) ?_
              refine W_nil ?_
              obtain rfl := Option.some.inj hm
              exact N_loop fun a ha => ⟨_, rfl, M3934.pick [0] (by kernel_rfl), ha.sub (by kernel_rfl)⟩
        · refine G_cond_f (b := (decide (s3860 < (x1109.Cpus.length : Int)))) hc3871 (by kernel_rfl) ?_
          refine G_exit ?_
          refine N_then_exit ?_
          refine N_then_exit ?_
          refine N_block_eq ?_
          obtain rfl := Option.some.inj hm
          obtain rfl := hout3862 _ rfl
          exact N_meet fun a ha => ⟨_, rfl, M3865.pick [] (by kernel_rfl), ha.sub (by kernel_rfl)⟩
      · intro a3938 w3939 ⟨o3870, hout_, M3940, hS3941⟩
        refine N_use hS3941 ?_
        subst hout_
        have hm := hmo3869; simp only [Sum.elim_inl] at hm
        refine N_then ?_
        refine G_seq ?_
        refine G_region ?_
        refine W_run 1 [(2, .bool true)] w3939 (by kernel_rfl) ?_
        refine W_nil ?_
        refine N_then ?_
        refine G_ret ?_
        obtain rfl := Option.some.inj hm
        refine N_ret [.bool true] (RVs_cons (RV_tmp (by kernel_rfl)) RVs_nil) ?_
        exact ⟨rfl, M3940.pick [] (by kernel_rfl)⟩
theorem c_s_IsMachine (w : World) (x1088 : Machine) (p1090 : Option Addr) (c1091 : Nat) (h1092 : rdS encRoute w x1088.Routes p1090 c1091) (p1094 : Option Addr) (c1095 : Nat) (h1096 : rdS Gx.encB w x1088.Enabled p1094 c1095) (p1098 : Option Addr) (c1099 : Nat) (h1100 : rdS Gx.encB w x1088.Raised p1098 c1099) (p1102 : Option Addr) (c1103 : Nat) (h1104 : rdD deepInterface w x1088.Cpus p1102 c1103) {r : Bool} (hm : M.s_IsMachine x1088 = some r) :
    Calls Tryz.prog 13 #[.agg #[.slice p1090 x1088.Routes.length c1091, .slice p1094 x1088.Enabled.length c1095, .slice p1098 x1088.Raised.length c1099, .slice p1102 x1088.Cpus.length c1103]] w fun e w' => e = .returned (.bool r) ∧ Mem [] w w' [] := by
  unfold M.s_IsMachine at hm
  refine C_enter Tryz.func13 rfl (by kernel_rfl) ?_
  have M0 := Mem.refl [] w
  refine G_seq ?_
  refine G_region ?_
  refine W_new (fun b => .pointer (some ⟨b, 0, none⟩)) (.cells ⟨[.slice p1090 x1088.Routes.length c1091, .slice p1094 x1088.Enabled.length c1095, .slice p1098 x1088.Raised.length c1099, .slice p1102 x1088.Cpus.length c1103]⟩ 32 (0, 0)) M0 rfl (by kernel_rfl) (by kernel_rfl) ?_
  intro b1106 w1107 M1108
  refine W_run 1 [(1, .pointer (some ⟨b1106, 0, none⟩))] w1107 (by kernel_rfl) ?_
  refine W_nil ?_
  refine N_then ?_
  refine G_seq ?_
  refine G_region ?_
  refine W_val (.agg #[.slice p1090 x1088.Routes.length c1091, .slice p1094 x1088.Enabled.length c1095, .slice p1098 x1088.Raised.length c1099, .slice p1102 x1088.Cpus.length c1103]) w1107 (by kernel_rfl) (E_load (e := 32) (fr := (0, 0)) _ _ true 4 b1106 0 [.slice p1090 x1088.Routes.length c1091, .slice p1094 x1088.Enabled.length c1095, .slice p1098 x1088.Raised.length c1099, .slice p1102 x1088.Cpus.length c1103] (.agg #[.slice p1090 x1088.Routes.length c1091, .slice p1094 x1088.Enabled.length c1095, .slice p1098 x1088.Raised.length c1099, .slice p1102 x1088.Cpus.length c1103]) rfl (by kernel_rfl) (by kernel_rfl) (by kernel_rfl) (M1108.blk 0 (b := b1106) (o := .cells ⟨[.slice p1090 x1088.Routes.length c1091, .slice p1094 x1088.Enabled.length c1095, .slice p1098 x1088.Raised.length c1099, .slice p1102 x1088.Cpus.length c1103]⟩ 32 (0, 0)) (by kernel_rfl))) ?_
  obtain ⟨r3942, hr3942, hm⟩ := gx_bind hm
  refine W_call 54 #[.agg #[.slice p1090 x1088.Routes.length c1091, .slice p1094 x1088.Enabled.length c1095, .slice p1098 x1088.Raised.length c1099, .slice p1102 x1088.Cpus.length c1103]] (by kernel_rfl) (by kernel_rfl) ?_
  refine (c_s_l21Good w1107 x1088 p1090 c1091 (h1092.mem0 M1108) p1094 c1095 (h1096.mem0 M1108) p1098 c1099 (h1100.mem0 M1108) p1102 c1103 (h1104.mem0 M1108) hr3942).mono ?_
  rintro e_ w3943 ⟨rfl, K3944⟩
  have M3945 := M1108.call0 K3944
  refine ⟨_, rfl, ?_⟩
  refine W_run 1 [(2, .bool r3942)] w3943 (by kernel_rfl) ?_
  refine W_nil ?_
  refine N_then ?_
  refine G_ret ?_
  obtain rfl := Option.some.inj hm
  refine N_ret [.bool r3942] (RVs_cons (RV_tmp (by kernel_rfl)) RVs_nil) ?_
  exact ⟨rfl, M3945.pick [] (by kernel_rfl)⟩
theorem c_i_inside (w : World) (x4016 : Int) (x4017 : Int) (x4018 : Int) {r : Bool} (hm : M.i_inside x4016 x4017 x4018 = some r) :
    Calls Tryz.prog 108 #[.int .i64 x4016, .int .i64 x4017, .int .i64 x4018] w fun e w' => e = .returned (.bool r) ∧ Mem [] w w' [] := by
  unfold M.i_inside at hm
  refine C_enter Tryz.func108 rfl (by kernel_rfl) ?_
  have M0 := Mem.refl [] w
  refine G_seq ?_
  refine G_region ?_
  refine W_run 1 [(0, .int .i64 x4016), (1, .int .i64 x4017), (2, .int .i64 x4018)] w (by kernel_rfl) ?_
  refine W_nil ?_
  refine N_then ?_
  refine G_seq ?_
  obtain ⟨o4020, ho4021, hm4022⟩ := gx_bind hm
  refine G_meet (fun a w' => Mem [] w w' [] ∧ Sat Tryz.f108.ntmps [(6, .bool o4020)] a) ?_ ?_
  · have hm := ho4021
    refine G_region ?_
    refine W_run 4 [(0, .int .i64 x4016), (2, .int .i64 x4018), (10, .bool (decide (x4016 ≥ x4017)))] w (by kernel_rfl) ?_
    rcases gx_bif hm with ⟨hc4023, hm⟩ | ⟨hc4023, hm⟩
    · refine W_known 10 true (by kernel_rfl) hc4023 ?_
      refine W_run 5 [(6, .bool (decide (x4016 ≤ x4018)))] w (by kernel_rfl) ?_
      refine W_nil ?_
      obtain rfl := Option.some.inj hm
      exact N_meet fun a ha => ⟨M0.pick [] (by kernel_rfl), ha.sub (by kernel_rfl)⟩
    · refine W_known 10 false (by kernel_rfl) hc4023 ?_
      refine W_run 5 [(6, .bool false)] w (by kernel_rfl) ?_
      refine W_nil ?_
      obtain rfl := Option.some.inj hm
      exact N_meet fun a ha => ⟨M0.pick [] (by kernel_rfl), ha.sub (by kernel_rfl)⟩
  · intro a4026 w4024 ⟨M4025, hS4027⟩
    refine N_use hS4027 ?_
    have hm := hm4022
    refine N_then ?_
    refine G_ret ?_
    obtain rfl := Option.some.inj hm
    refine N_ret [.bool o4020] (RVs_cons (RV_tmp (by kernel_rfl)) RVs_nil) ?_
    exact ⟨rfl, M4025.pick [] (by kernel_rfl)⟩
theorem c_i_isPriority (w : World) (x4063 : Int) {r : Bool} (hm : M.i_isPriority x4063 = some r) :
    Calls Tryz.prog 111 #[.int .i64 x4063] w fun e w' => e = .returned (.bool r) ∧ Mem [] w w' [] := by
  unfold M.i_isPriority at hm
  refine C_enter Tryz.func111 rfl (by kernel_rfl) ?_
  have M0 := Mem.refl [] w
  refine G_seq ?_
  refine G_region ?_
  refine W_run 1 [(0, .int .i64 x4063)] w (by kernel_rfl) ?_
  refine W_nil ?_
  refine N_then ?_
  refine G_seq ?_
  refine G_region ?_
  refine W_run 1 [(3, .int .i64 x4063)] w (by kernel_rfl) ?_
  obtain ⟨r4064, hr4064, hm⟩ := gx_bind hm
  refine W_call 108 #[.int .i64 x4063, .int .i64 0, .int .i64 15] (by kernel_rfl) (by kernel_rfl) ?_
  refine (c_i_inside w x4063 0 15 hr4064).mono ?_
  rintro e_ w4065 ⟨rfl, K4066⟩
  have M4067 := M0.call0 K4066
  refine ⟨_, rfl, ?_⟩
  refine W_run 1 [(2, .bool r4064)] w4065 (by kernel_rfl) ?_
  refine W_nil ?_
  refine N_then ?_
  refine G_ret ?_
  obtain rfl := Option.some.inj hm
  refine N_ret [.bool r4064] (RVs_cons (RV_tmp (by kernel_rfl)) RVs_nil) ?_
  exact ⟨rfl, M4067.pick [] (by kernel_rfl)⟩
theorem c_i_areRoutes_1 (w : World) (x4054 : Route) (x4055 : Int) (b4056 : Nat) (hb4057 : w.heap[b4056]? = some (.cells ⟨[.int .i64 x4055]⟩ 3 (0, 0))) {r : Bool} (hm : M.i_areRoutes_1 x4054 x4055 = some r) :
    Calls Tryz.prog 110 #[.agg #[.int .i64 x4054.Priority, .int .i64 x4054.Target], .pointer (some ⟨b4056, 0, none⟩)] w fun e w' => e = .returned (.bool r) ∧ Mem [] w w' [] := by
  unfold M.i_areRoutes_1 at hm
  refine C_enter Tryz.func110 rfl (by kernel_rfl) ?_
  have M0 := Mem.refl [] w
  refine G_seq ?_
  refine G_region ?_
  refine W_new (fun b => .pointer (some ⟨b, 0, none⟩)) (.cells ⟨[.int .i64 x4054.Priority, .int .i64 x4054.Target]⟩ 129 (0, 0)) M0 rfl (by kernel_rfl) (by kernel_rfl) ?_
  intro b4060 w4061 M4062
  refine W_run 1 [(1, .pointer (some ⟨b4056, 0, none⟩)), (2, .pointer (some ⟨b4060, 0, none⟩))] w4061 (by kernel_rfl) ?_
  refine W_nil ?_
  refine N_then ?_
  refine G_seq ?_
  obtain ⟨o4077, ho4078, hm4079⟩ := gx_bind hm
  refine G_meet (fun a w' => Mem [] w w' [] ∧ Sat Tryz.f110.ntmps [(3, .bool o4077)] a) ?_ ?_
  · have hm := ho4078
    refine G_region ?_
    refine W_run 1 [(1, .pointer (some ⟨b4056, 0, none⟩)), (2, .pointer (some ⟨b4060, 0, none⟩)), (4, .pointer (some ⟨b4060, 0, none⟩))] w4061 (by kernel_rfl) ?_
    refine W_val (.int .i64 x4054.Priority) w4061 (by kernel_rfl) (E_load (e := 129) (fr := (0, 0)) _ _ false 1 b4060 0 [.int .i64 x4054.Priority, .int .i64 x4054.Target] (.int .i64 x4054.Priority) rfl (by kernel_rfl) (by kernel_rfl) (by kernel_rfl) (M4062.blk 0 (b := b4060) (o := .cells ⟨[.int .i64 x4054.Priority, .int .i64 x4054.Target]⟩ 129 (0, 0)) (by kernel_rfl))) ?_
    obtain ⟨r4080, hr4080, hm⟩ := gx_bind hm
    refine W_call 111 #[.int .i64 x4054.Priority] (by kernel_rfl) (by kernel_rfl) ?_
    refine (c_i_isPriority w4061 x4054.Priority hr4080).mono ?_
    rintro e_ w4081 ⟨rfl, K4082⟩
    have M4083 := M4062.call0 K4082
    refine ⟨_, rfl, ?_⟩
    refine W_run 2 [(1, .pointer (some ⟨b4056, 0, none⟩)), (2, .pointer (some ⟨b4060, 0, none⟩)), (8, .bool (!r4080))] w4081 (by kernel_rfl) ?_
    rcases gx_bif hm with ⟨hc4084, hm⟩ | ⟨hc4084, hm⟩
    · refine W_known 8 true (by kernel_rfl) hc4084 ?_
      refine W_run 8 [(3, .bool true)] w4081 (by kernel_rfl) ?_
      refine W_nil ?_
      obtain rfl := Option.some.inj hm
      exact N_meet fun a ha => ⟨M4083.pick [] (by kernel_rfl), ha.sub (by kernel_rfl)⟩
    · refine W_known 8 false (by kernel_rfl) hc4084 ?_
      refine W_run 1 [(1, .pointer (some ⟨b4056, 0, none⟩)), (8, .bool false), (9, .pointer (some ⟨b4060, 1, none⟩))] w4081 (by kernel_rfl) ?_
      refine W_val (.int .i64 x4054.Target) w4081 (by kernel_rfl) (E_load (e := 129) (fr := (0, 0)) _ _ false 1 b4060 1 [.int .i64 x4054.Priority, .int .i64 x4054.Target] (.int .i64 x4054.Target) rfl (by kernel_rfl) (by kernel_rfl) (by kernel_rfl) (M4083.blk 0 (b := b4060) (o := .cells ⟨[.int .i64 x4054.Priority, .int .i64 x4054.Target]⟩ 129 (0, 0)) (by kernel_rfl))) ?_
      refine W_val (.int .i64 x4055) w4081 (by kernel_rfl) (E_load (e := 3) (fr := (0, 0)) _ _ false 1 b4056 0 [.int .i64 x4055] (.int .i64 x4055) rfl (by kernel_rfl) (by kernel_rfl) (by kernel_rfl) (M4083.ro hb4057)) ?_
      refine W_run 1 [(8, .bool false), (10, .int .i64 x4054.Target), (12, .int .i64 (w64 (x4055 - 1)))] w4081 (by kernel_rfl) ?_
      obtain ⟨r4085, hr4085, hm⟩ := gx_bind hm
      refine W_call 108 #[.int .i64 x4054.Target, .int .i64 0, .int .i64 (w64 (x4055 - 1))] (by kernel_rfl) (by kernel_rfl) ?_
      refine (c_i_inside w4081 x4054.Target 0 (w64 (x4055 - 1)) hr4085).mono ?_
      rintro e_ w4086 ⟨rfl, K4087⟩
      have M4088 := M4083.call0 K4087
      refine ⟨_, rfl, ?_⟩
      refine W_run 3 [(3, .bool (!r4085))] w4086 (by kernel_rfl) ?_
      refine W_nil ?_
      obtain rfl := Option.some.inj hm
      exact N_meet fun a ha => ⟨M4088.pick [] (by kernel_rfl), ha.sub (by kernel_rfl)⟩
  · intro a4091 w4089 ⟨M4090, hS4092⟩
    refine N_use hS4092 ?_
    have hm := hm4079
    refine N_then ?_
    refine G_ret ?_
    obtain rfl := Option.some.inj hm
    refine N_ret [.bool o4077] (RVs_cons (RV_tmp (by kernel_rfl)) RVs_nil) ?_
    exact ⟨rfl, M4090.pick [] (by kernel_rfl)⟩
theorem c_slices_IndexFunc_159__i_areRoutes_1 (w : World) (x4043 : List Route) (p4045 : Option Addr) (c4046 : Nat) (h4047 : rdS encRoute w x4043 p4045 c4046) (x4048 : Int) (b4049 : Nat) (hb4050 : w.heap[b4049]? = some (.cells ⟨[.int .i64 x4048]⟩ 3 (0, 0))) {r : Int} (hm : M.slices_IndexFunc_159__i_areRoutes_1 x4043 x4048 = some r) :
    Calls Tryz.prog 159 #[.slice p4045 x4043.length c4046, .func (.func 110) #[] #[.pointer (some ⟨b4049, 0, none⟩)]] w fun e w' => e = .returned (.int .i64 r) ∧ Mem [] w w' [] := by
  unfold M.slices_IndexFunc_159__i_areRoutes_1 at hm
  refine C_enter Tryz.func159 rfl (by kernel_rfl) ?_
  have M0 := Mem.refl [] w
  refine G_seq ?_
  refine G_region ?_
  refine W_run 1 [(0, .slice p4045 x4043.length c4046), (1, .func (.func 110) #[] #[.pointer (some ⟨b4049, 0, none⟩)])] w (by kernel_rfl) ?_
  refine W_nil ?_
  refine N_then ?_
  refine G_seq ?_
  refine G_seq ?_
  refine G_region ?_
  refine W_run 3 [(0, .slice p4045 x4043.length c4046), (1, .func (.func 110) #[] #[.pointer (some ⟨b4049, 0, none⟩)]), (7, .int .i64 (x4043.length : Int)), (8, .int .i64 0)] w (by kernel_rfl) ?_
  refine W_nil ?_
  refine N_then ?_
  obtain ⟨out4112, hw4113, hmo4114⟩ := gx_bind hm
  refine G_meet (fun a w' => ∃ (o4115 : Unit), out4112 = .inl o4115 ∧ Mem [] w w' [] ∧ Sat Tryz.f159.ntmps [] a) ?_ ?_
  · refine G_block ?_
    refine G_while (σ := Int) (ρ := (Unit) ⊕ (Int)) (fun s4105 a w' => Mem [] w w' [] ∧ Sat Tryz.f159.ntmps [(0, .slice p4045 x4043.length c4046), (1, .func (.func 110) #[] #[.pointer (some ⟨b4049, 0, none⟩)]), (7, .int .i64 (x4043.length : Int)), (8, .int .i64 s4105)] a) hw4113 (fun a ha => ⟨M0.pick [] (by kernel_rfl), ha.sub (by kernel_rfl)⟩) ?_
    clear hm
    intro s4105 x4106 hm hout4107 a4108 w4109 ⟨M4110, hS4111⟩
    refine G_use hS4111 ?_
    refine G_seq ?_
    refine G_region ?_
    refine W_run 1 [(0, .slice p4045 x4043.length c4046), (1, .func (.func 110) #[] #[.pointer (some ⟨b4049, 0, none⟩)]), (7, .int .i64 (x4043.length : Int)), (8, .int .i64 s4105), (9, .bool (decide (s4105 < (x4043.length : Int))))] w4109 (by kernel_rfl) ?_
    refine W_nil ?_
    refine N_then ?_
    refine G_seq ?_
    rcases gx_bif hm with ⟨hc4116, hm⟩ | ⟨hc4116, hm⟩
    · refine G_cond_t (b := (decide (s4105 < (x4043.length : Int)))) hc4116 (by kernel_rfl) ?_
      refine G_skip ?_
      refine N_then ?_
      refine G_seq ?_
      refine G_block ?_
      refine G_seq ?_
      refine G_region ?_
      refine W_run 2 [(0, .slice p4045 x4043.length c4046), (1, .func (.func 110) #[] #[.pointer (some ⟨b4049, 0, none⟩)]), (5, .int .i64 s4105), (7, .int .i64 (x4043.length : Int)), (8, .int .i64 s4105)] w4109 (by kernel_rfl) ?_
      refine W_nil ?_
      refine N_then ?_
      refine G_seq ?_
      refine G_region ?_
      refine W_run 3 [(0, .slice p4045 x4043.length c4046), (1, .func (.func 110) #[] #[.pointer (some ⟨b4049, 0, none⟩)]), (5, .int .i64 s4105), (7, .int .i64 (x4043.length : Int)), (8, .int .i64 s4105), (11, .func (.func 110) #[] #[.pointer (some ⟨b4049, 0, none⟩)]), (12, .slice p4045 x4043.length c4046), (13, .int .i64 s4105)] w4109 (by kernel_rfl) ?_
      obtain ⟨y4117, hy4117, hm⟩ := gx_bind hm
      refine W_val (elemP p4045 (s4105.toNat * 2)) w4109 (by kernel_rfl) (E_index (E := encRoute) _ _ _ x4043.length c4046 .i64 s4105 2 (y := y4117) rfl (by kernel_rfl) (by kernel_rfl) (by kernel_rfl) (h4047.mem0 M4110) rfl hy4117) ?_
      refine W_val (.agg #[.int .i64 y4117.Priority, .int .i64 y4117.Target]) w4109 (by kernel_rfl) (E_loadE (E := encRoute) _ _ true 2 s4105 0 (s4105.toNat * 2) y4117 (.agg #[.int .i64 y4117.Priority, .int .i64 y4117.Target]) rfl (by kernel_rfl) (by kernel_rfl) (by kernel_rfl) (h4047.mem0 M4110) hy4117 rfl) ?_
      obtain ⟨r4118, hr4118, hm⟩ := gx_bind hm
      refine W_call 110 #[.agg #[.int .i64 y4117.Priority, .int .i64 y4117.Target], .pointer (some ⟨b4049, 0, none⟩)] (by kernel_rfl) (by kernel_rfl) ?_
      refine (c_i_areRoutes_1 w4109 y4117 x4048 b4049 (M4110.ro hb4050) hr4118).mono ?_
      rintro e_ w4119 ⟨rfl, K4120⟩
      have M4121 := M4110.call0 K4120
      refine ⟨_, rfl, ?_⟩
      refine W_nil ?_
      refine N_then ?_
      rcases gx_bif hm with ⟨hc4122, hm⟩ | ⟨hc4122, hm⟩
      · refine G_cond_t (b := r4118) hc4122 (by kernel_rfl) ?_
        refine G_seq ?_
        refine G_region ?_
        refine W_run 2 [(4, .int .i64 s4105)] w4119 (by kernel_rfl) ?_
        refine W_nil ?_
        refine N_then ?_
        refine G_ret ?_
        refine N_block_ret ?_
        refine N_then_ret ?_
        refine N_then_ret ?_
        obtain rfl := Option.some.inj hm
        obtain rfl := hout4107 _ rfl
        have hm := hmo4114; simp only [Sum.elim_inr] at hm
        refine N_block_ret ?_
        refine N_meet_ret ?_
        refine N_then_ret ?_
        obtain rfl := Option.some.inj hm
        refine N_ret [.int .i64 s4105] (RVs_cons (RV_tmp (by kernel_rfl)) RVs_nil) ?_
        exact ⟨rfl, M4121.pick [] (by kernel_rfl)⟩
      · refine G_cond_f (b := r4118) hc4122 (by kernel_rfl) ?_
        refine G_skip ?_
        refine N_block ?_
        refine N_then ?_
        refine G_region ?_
        refine W_run 2 [(0, .slice p4045 x4043.length c4046), (1, .func (.func 110) #[] #[.pointer (some ⟨b4049, 0, none⟩)]), (7, .int .i64 (x4043.length : Int)), (8, .int .i64 (w64 (s4105 + 1)))] w4119 (by kernel_rfl) ?_
        refine W_nil ?_
        obtain rfl := Option.some.inj hm
        exact N_loop fun a ha => ⟨_, rfl, M4121.pick [] (by kernel_rfl), ha.sub (by kernel_rfl)⟩
    · refine G_cond_f (b := (decide (s4105 < (x4043.length : Int)))) hc4116 (by kernel_rfl) ?_
      refine G_exit ?_
      refine N_then_exit ?_
      refine N_then_exit ?_
      refine N_block_eq ?_
      obtain rfl := Option.some.inj hm
      obtain rfl := hout4107 _ rfl
      exact N_meet fun a ha => ⟨_, rfl, M4110.pick [] (by kernel_rfl), ha.sub (by kernel_rfl)⟩
  · intro a4123 w4124 ⟨o4115, hout_, M4125, hS4126⟩
    refine N_use hS4126 ?_
    subst hout_
    have hm := hmo4114; simp only [Sum.elim_inl] at hm
    refine N_then ?_
    refine G_seq ?_
    refine G_region ?_
    refine W_run 1 [(4, .int .i64 (-1))] w4124 (by kernel_rfl) ?_
    refine W_nil ?_
    refine N_then ?_
    refine G_ret ?_
    obtain rfl := Option.some.inj hm
    refine N_ret [.int .i64 (-1)] (RVs_cons (RV_tmp (by kernel_rfl)) RVs_nil) ?_
    exact ⟨rfl, M4125.pick [] (by kernel_rfl)⟩
theorem c_slices_ContainsFunc_109__i_areRoutes_1 (w : World) (x4034 : List Route) (p4036 : Option Addr) (c4037 : Nat) (h4038 : rdS encRoute w x4034 p4036 c4037) (x4039 : Int) (b4040 : Nat) (hb4041 : w.heap[b4040]? = some (.cells ⟨[.int .i64 x4039]⟩ 3 (0, 0))) {r : Bool} (hm : M.slices_ContainsFunc_109__i_areRoutes_1 x4034 x4039 = some r) :
    Calls Tryz.prog 109 #[.slice p4036 x4034.length c4037, .func (.func 110) #[] #[.pointer (some ⟨b4040, 0, none⟩)]] w fun e w' => e = .returned (.bool r) ∧ Mem [] w w' [] := by
  unfold M.slices_ContainsFunc_109__i_areRoutes_1 at hm
  refine C_enter Tryz.func109 rfl (by kernel_rfl) ?_
  have M0 := Mem.refl [] w
  refine G_seq ?_
  refine G_region ?_
  refine W_run 1 [(0, .slice p4036 x4034.length c4037), (1, .func (.func 110) #[] #[.pointer (some ⟨b4040, 0, none⟩)])] w (by kernel_rfl) ?_
  refine W_nil ?_
  refine N_then ?_
  refine G_seq ?_
  refine G_region ?_
  refine W_run 2 [(5, .slice p4036 x4034.length c4037), (6, .func (.func 110) #[] #[.pointer (some ⟨b4040, 0, none⟩)])] w (by kernel_rfl) ?_
  obtain ⟨r4127, hr4127, hm⟩ := gx_bind hm
  refine W_call 159 #[.slice p4036 x4034.length c4037, .func (.func 110) #[] #[.pointer (some ⟨b4040, 0, none⟩)]] (by kernel_rfl) (by kernel_rfl) ?_
  refine (c_slices_IndexFunc_159__i_areRoutes_1 w x4034 p4036 c4037 (h4038.mem0 M0) x4039 b4040 (M0.ro hb4041) hr4127).mono ?_
  rintro e_ w4128 ⟨rfl, K4129⟩
  have M4130 := M0.call0 K4129
  refine ⟨_, rfl, ?_⟩
  refine W_run 2 [(4, .bool (decide (r4127 ≥ 0)))] w4128 (by kernel_rfl) ?_
  refine W_nil ?_
  refine N_then ?_
  refine G_ret ?_
  obtain rfl := Option.some.inj hm
  refine N_ret [.bool (decide (r4127 ≥ 0))] (RVs_cons (RV_tmp (by kernel_rfl)) RVs_nil) ?_
  exact ⟨rfl, M4130.pick [] (by kernel_rfl)⟩
theorem c_i_areRoutes (w : World) (x4006 : List Route) (p4008 : Option Addr) (c4009 : Nat) (h4010 : rdS encRoute w x4006 p4008 c4009) (x4011 : Int) {r : Bool} (hm : M.i_areRoutes x4006 x4011 = some r) :
    Calls Tryz.prog 58 #[.slice p4008 x4006.length c4009, .int .i64 x4011] w fun e w' => e = .returned (.bool r) ∧ Mem [] w w' [] := by
  unfold M.i_areRoutes at hm
  refine C_enter Tryz.func58 rfl (by kernel_rfl) ?_
  have M0 := Mem.refl [] w
  refine G_seq ?_
  refine G_region ?_
  refine W_new (fun b => .pointer (some ⟨b, 0, none⟩)) (.cells ⟨[.int .i64 x4011]⟩ 3 (0, 0)) M0 rfl (by kernel_rfl) (by kernel_rfl) ?_
  intro b4013 w4014 M4015
  refine W_run 1 [(0, .slice p4008 x4006.length c4009), (3, .pointer (some ⟨b4013, 0, none⟩))] w4014 (by kernel_rfl) ?_
  refine W_nil ?_
  refine N_then ?_
  refine G_seq ?_
  obtain ⟨o4135, ho4136, hm4137⟩ := gx_bind hm
  refine G_meet (fun a w' => Mem [] w w' [] ∧ Sat Tryz.f58.ntmps [(4, .bool o4135)] a) ?_ ?_
  · have hm := ho4136
    refine G_region ?_
    refine W_val (.int .i64 x4011) w4014 (by kernel_rfl) (E_load (e := 3) (fr := (0, 0)) _ _ false 1 b4013 0 [.int .i64 x4011] (.int .i64 x4011) rfl (by kernel_rfl) (by kernel_rfl) (by kernel_rfl) (M4015.blk 0 (b := b4013) (o := .cells ⟨[.int .i64 x4011]⟩ 3 (0, 0)) (by kernel_rfl))) ?_
    obtain ⟨r4138, hr4138, hm⟩ := gx_bind hm
    refine W_call 108 #[.int .i64 x4011, .int .i64 1, .int .i64 2] (by kernel_rfl) (by kernel_rfl) ?_
    refine (c_i_inside w4014 x4011 1 2 hr4138).mono ?_
    rintro e_ w4139 ⟨rfl, K4140⟩
    have M4141 := M4015.call0 K4140
    refine ⟨_, rfl, ?_⟩
    refine W_run 1 [(0, .slice p4008 x4006.length c4009), (3, .pointer (some ⟨b4013, 0, none⟩)), (7, .bool r4138)] w4139 (by kernel_rfl) ?_
    rcases gx_bif hm with ⟨hc4142, hm⟩ | ⟨hc4142, hm⟩
    · refine W_known 7 true (by kernel_rfl) hc4142 ?_
      refine W_run 5 [(0, .slice p4008 x4006.length c4009), (3, .pointer (some ⟨b4013, 0, none⟩)), (12, .bool ((x4006.length : Int) == 8))] w4139 (by kernel_rfl) ?_
      rcases gx_bif hm with ⟨hc4143, hm⟩ | ⟨hc4143, hm⟩
      · refine W_known 12 true (by kernel_rfl) hc4143 ?_
        refine W_run 2 [(12, .bool true), (13, .slice p4008 x4006.length c4009), (14, .func (.func 110) #[] #[.pointer (some ⟨b4013, 0, none⟩)])] w4139 (by kernel_rfl) ?_
        obtain ⟨r4144, hr4144, hm⟩ := gx_bind hm
        refine W_call 109 #[.slice p4008 x4006.length c4009, .func (.func 110) #[] #[.pointer (some ⟨b4013, 0, none⟩)]] (by kernel_rfl) (by kernel_rfl) ?_
        refine (c_slices_ContainsFunc_109__i_areRoutes_1 w4139 x4006 p4008 c4009 (h4010.mem0 M4141) x4011 b4013 (M4141.blk 0 (b := b4013) (o := .cells ⟨[.int .i64 x4011]⟩ 3 (0, 0)) (by kernel_rfl)) hr4144).mono ?_
        rintro e_ w4145 ⟨rfl, K4146⟩
        have M4147 := M4141.call0 K4146
        refine ⟨_, rfl, ?_⟩
        refine W_run 3 [(4, .bool (!r4144))] w4145 (by kernel_rfl) ?_
        refine W_nil ?_
        obtain rfl := Option.some.inj hm
        exact N_meet fun a ha => ⟨M4147.pick [] (by kernel_rfl), ha.sub (by kernel_rfl)⟩
      · refine W_known 12 false (by kernel_rfl) hc4143 ?_
        refine W_run 6 [(4, .bool false)] w4139 (by kernel_rfl) ?_
        refine W_nil ?_
        obtain rfl := Option.some.inj hm
        exact N_meet fun a ha => ⟨M4141.pick [] (by kernel_rfl), ha.sub (by kernel_rfl)⟩
    · refine W_known 7 false (by kernel_rfl) hc4142 ?_
      refine W_run 11 [(4, .bool false)] w4139 (by kernel_rfl) ?_
      refine W_nil ?_
      obtain rfl := Option.some.inj hm
      exact N_meet fun a ha => ⟨M4141.pick [] (by kernel_rfl), ha.sub (by kernel_rfl)⟩
  · intro a4150 w4148 ⟨M4149, hS4151⟩
    refine N_use hS4151 ?_
    have hm := hm4137
    refine N_then ?_
    refine G_ret ?_
    obtain rfl := Option.some.inj hm
    refine N_ret [.bool o4135] (RVs_cons (RV_tmp (by kernel_rfl)) RVs_nil) ?_
    exact ⟨rfl, M4149.pick [] (by kernel_rfl)⟩
theorem c_i_isMask (w : World) (x4209 : Int) {r : Bool} (hm : M.i_isMask x4209 = some r) :
    Calls Tryz.prog 112 #[.int .i64 x4209] w fun e w' => e = .returned (.bool r) ∧ Mem [] w w' [] := by
  unfold M.i_isMask at hm
  refine C_enter Tryz.func112 rfl (by kernel_rfl) ?_
  have M0 := Mem.refl [] w
  refine G_seq ?_
  refine G_region ?_
  refine W_run 1 [(0, .int .i64 x4209)] w (by kernel_rfl) ?_
  refine W_nil ?_
  refine N_then ?_
  refine G_seq ?_
  refine G_region ?_
  refine W_run 1 [(3, .int .i64 x4209)] w (by kernel_rfl) ?_
  obtain ⟨r4210, hr4210, hm⟩ := gx_bind hm
  refine W_call 108 #[.int .i64 x4209, .int .i64 0, .int .i64 16] (by kernel_rfl) (by kernel_rfl) ?_
  refine (c_i_inside w x4209 0 16 hr4210).mono ?_
  rintro e_ w4211 ⟨rfl, K4212⟩
  have M4213 := M0.call0 K4212
  refine ⟨_, rfl, ?_⟩
  refine W_run 1 [(2, .bool r4210)] w4211 (by kernel_rfl) ?_
  refine W_nil ?_
  refine N_then ?_
  refine G_ret ?_
  obtain rfl := Option.some.inj hm
  refine N_ret [.bool r4210] (RVs_cons (RV_tmp (by kernel_rfl)) RVs_nil) ?_
  exact ⟨rfl, M4213.pick [] (by kernel_rfl)⟩
theorem c_i_isIrq (w : World) (x4265 : Int) {r : Bool} (hm : M.i_isIrq x4265 = some r) :
    Calls Tryz.prog 144 #[.int .i64 x4265] w fun e w' => e = .returned (.bool r) ∧ Mem [] w w' [] := by
  unfold M.i_isIrq at hm
  refine C_enter Tryz.func144 rfl (by kernel_rfl) ?_
  have M0 := Mem.refl [] w
  refine G_seq ?_
  refine G_region ?_
  refine W_run 1 [(0, .int .i64 x4265)] w (by kernel_rfl) ?_
  refine W_nil ?_
  refine N_then ?_
  refine G_seq ?_
  refine G_region ?_
  refine W_run 1 [(3, .int .i64 x4265)] w (by kernel_rfl) ?_
  obtain ⟨r4266, hr4266, hm⟩ := gx_bind hm
  refine W_call 108 #[.int .i64 x4265, .int .i64 0, .int .i64 7] (by kernel_rfl) (by kernel_rfl) ?_
  refine (c_i_inside w x4265 0 7 hr4266).mono ?_
  rintro e_ w4267 ⟨rfl, K4268⟩
  have M4269 := M0.call0 K4268
  refine ⟨_, rfl, ?_⟩
  refine W_run 1 [(2, .bool r4266)] w4267 (by kernel_rfl) ?_
  refine W_nil ?_
  refine N_then ?_
  refine G_ret ?_
  obtain rfl := Option.some.inj hm
  refine N_ret [.bool r4266] (RVs_cons (RV_tmp (by kernel_rfl)) RVs_nil) ?_
  exact ⟨rfl, M4269.pick [] (by kernel_rfl)⟩
theorem c_i_findSlot_1 (w : World) (x4307 : Slot) (x4308 : Int) (b4309 : Nat) (hb4310 : w.heap[b4309]? = some (.cells ⟨[.int .i64 x4308]⟩ 3 (0, 0))) {r : Bool} (hm : M.i_findSlot_1 x4307 x4308 = some r) :
    Calls Tryz.prog 211 #[.agg #[.int .i64 x4307.State, .int .i64 x4307.Irq, .int .i64 x4307.Priority], .pointer (some ⟨b4309, 0, none⟩)] w fun e w' => e = .returned (.bool r) ∧ Mem [] w w' [] := by
  unfold M.i_findSlot_1 at hm
  refine C_enter Tryz.func211 rfl (by kernel_rfl) ?_
  have M0 := Mem.refl [] w
  refine G_seq ?_
  refine G_region ?_
  refine W_new (fun b => .pointer (some ⟨b, 0, none⟩)) (.cells ⟨[.int .i64 x4307.State, .int .i64 x4307.Irq, .int .i64 x4307.Priority]⟩ 117 (0, 0)) M0 rfl (by kernel_rfl) (by kernel_rfl) ?_
  intro b4313 w4314 M4315
  refine W_run 1 [(1, .pointer (some ⟨b4309, 0, none⟩)), (2, .pointer (some ⟨b4313, 0, none⟩))] w4314 (by kernel_rfl) ?_
  refine W_nil ?_
  refine N_then ?_
  refine G_seq ?_
  obtain ⟨o4317, ho4318, hm4319⟩ := gx_bind hm
  refine G_meet (fun a w' => Mem [] w w' [] ∧ Sat Tryz.f211.ntmps [(3, .bool o4317)] a) ?_ ?_
  · have hm := ho4318
    refine G_region ?_
    refine W_run 1 [(1, .pointer (some ⟨b4309, 0, none⟩)), (2, .pointer (some ⟨b4313, 0, none⟩)), (4, .pointer (some ⟨b4313, 0, none⟩))] w4314 (by kernel_rfl) ?_
    refine W_val (.int .i64 x4307.State) w4314 (by kernel_rfl) (E_load (e := 117) (fr := (0, 0)) _ _ false 1 b4313 0 [.int .i64 x4307.State, .int .i64 x4307.Irq, .int .i64 x4307.Priority] (.int .i64 x4307.State) rfl (by kernel_rfl) (by kernel_rfl) (by kernel_rfl) (M4315.blk 0 (b := b4313) (o := .cells ⟨[.int .i64 x4307.State, .int .i64 x4307.Irq, .int .i64 x4307.Priority]⟩ 117 (0, 0)) (by kernel_rfl))) ?_
    refine W_run 2 [(1, .pointer (some ⟨b4309, 0, none⟩)), (2, .pointer (some ⟨b4313, 0, none⟩)), (7, .bool (x4307.State != 0))] w4314 (by kernel_rfl) ?_
    rcases gx_bif hm with ⟨hc4320, hm⟩ | ⟨hc4320, hm⟩
    · refine W_known 7 true (by kernel_rfl) hc4320 ?_
      refine W_run 1 [(1, .pointer (some ⟨b4309, 0, none⟩)), (7, .bool true), (8, .pointer (some ⟨b4313, 1, none⟩))] w4314 (by kernel_rfl) ?_
      refine W_val (.int .i64 x4307.Irq) w4314 (by kernel_rfl) (E_load (e := 117) (fr := (0, 0)) _ _ false 1 b4313 1 [.int .i64 x4307.State, .int .i64 x4307.Irq, .int .i64 x4307.Priority] (.int .i64 x4307.Irq) rfl (by kernel_rfl) (by kernel_rfl) (by kernel_rfl) (M4315.blk 0 (b := b4313) (o := .cells ⟨[.int .i64 x4307.State, .int .i64 x4307.Irq, .int .i64 x4307.Priority]⟩ 117 (0, 0)) (by kernel_rfl))) ?_
      refine W_val (.int .i64 x4308) w4314 (by kernel_rfl) (E_load (e := 3) (fr := (0, 0)) _ _ false 1 b4309 0 [.int .i64 x4308] (.int .i64 x4308) rfl (by kernel_rfl) (by kernel_rfl) (by kernel_rfl) (M4315.ro hb4310)) ?_
      refine W_run 3 [(3, .bool (x4307.Irq == x4308))] w4314 (by kernel_rfl) ?_
      refine W_nil ?_
      obtain rfl := Option.some.inj hm
      exact N_meet fun a ha => ⟨M4315.pick [] (by kernel_rfl), ha.sub (by kernel_rfl)⟩
    · refine W_known 7 false (by kernel_rfl) hc4320 ?_
      refine W_run 6 [(3, .bool false)] w4314 (by kernel_rfl) ?_
      refine W_nil ?_
      obtain rfl := Option.some.inj hm
      exact N_meet fun a ha => ⟨M4315.pick [] (by kernel_rfl), ha.sub (by kernel_rfl)⟩
  · intro a4323 w4321 ⟨M4322, hS4324⟩
    refine N_use hS4324 ?_
    have hm := hm4319
    refine N_then ?_
    refine G_ret ?_
    obtain rfl := Option.some.inj hm
    refine N_ret [.bool o4317] (RVs_cons (RV_tmp (by kernel_rfl)) RVs_nil) ?_
    exact ⟨rfl, M4322.pick [] (by kernel_rfl)⟩
theorem c_slices_IndexFunc_210__i_findSlot_1 (w : World) (x4296 : List Slot) (p4298 : Option Addr) (c4299 : Nat) (h4300 : rdS encSlot w x4296 p4298 c4299) (x4301 : Int) (b4302 : Nat) (hb4303 : w.heap[b4302]? = some (.cells ⟨[.int .i64 x4301]⟩ 3 (0, 0))) {r : Int} (hm : M.slices_IndexFunc_210__i_findSlot_1 x4296 x4301 = some r) :
    Calls Tryz.prog 210 #[.slice p4298 x4296.length c4299, .func (.func 211) #[] #[.pointer (some ⟨b4302, 0, none⟩)]] w fun e w' => e = .returned (.int .i64 r) ∧ Mem [] w w' [] := by
  unfold M.slices_IndexFunc_210__i_findSlot_1 at hm
  refine C_enter Tryz.func210 rfl (by kernel_rfl) ?_
  have M0 := Mem.refl [] w
  refine G_seq ?_
  refine G_region ?_
  refine W_run 1 [(0, .slice p4298 x4296.length c4299), (1, .func (.func 211) #[] #[.pointer (some ⟨b4302, 0, none⟩)])] w (by kernel_rfl) ?_
  refine W_nil ?_
  refine N_then ?_
  refine G_seq ?_
  refine G_seq ?_
  refine G_region ?_
  refine W_run 3 [(0, .slice p4298 x4296.length c4299), (1, .func (.func 211) #[] #[.pointer (some ⟨b4302, 0, none⟩)]), (7, .int .i64 (x4296.length : Int)), (8, .int .i64 0)] w (by kernel_rfl) ?_
  refine W_nil ?_
  refine N_then ?_
  obtain ⟨out4344, hw4345, hmo4346⟩ := gx_bind hm
  refine G_meet (fun a w' => ∃ (o4347 : Unit), out4344 = .inl o4347 ∧ Mem [] w w' [] ∧ Sat Tryz.f210.ntmps [] a) ?_ ?_
  · refine G_block ?_
    refine G_while (σ := Int) (ρ := (Unit) ⊕ (Int)) (fun s4337 a w' => Mem [] w w' [] ∧ Sat Tryz.f210.ntmps [(0, .slice p4298 x4296.length c4299), (1, .func (.func 211) #[] #[.pointer (some ⟨b4302, 0, none⟩)]), (7, .int .i64 (x4296.length : Int)), (8, .int .i64 s4337)] a) hw4345 (fun a ha => ⟨M0.pick [] (by kernel_rfl), ha.sub (by kernel_rfl)⟩) ?_
    clear hm
    intro s4337 x4338 hm hout4339 a4340 w4341 ⟨M4342, hS4343⟩
    refine G_use hS4343 ?_
    refine G_seq ?_
    refine G_region ?_
    refine W_run 1 [(0, .slice p4298 x4296.length c4299), (1, .func (.func 211) #[] #[.pointer (some ⟨b4302, 0, none⟩)]), (7, .int .i64 (x4296.length : Int)), (8, .int .i64 s4337), (9, .bool (decide (s4337 < (x4296.length : Int))))] w4341 (by kernel_rfl) ?_
    refine W_nil ?_
    refine N_then ?_
    refine G_seq ?_
    rcases gx_bif hm with ⟨hc4348, hm⟩ | ⟨hc4348, hm⟩
    · refine G_cond_t (b := (decide (s4337 < (x4296.length : Int)))) hc4348 (by kernel_rfl) ?_
      refine G_skip ?_
      refine N_then ?_
      refine G_seq ?_
      refine G_block ?_
      refine G_seq ?_
      refine G_region ?_
      refine W_run 2 [(0, .slice p4298 x4296.length c4299), (1, .func (.func 211) #[] #[.pointer (some ⟨b4302, 0, none⟩)]), (5, .int .i64 s4337), (7, .int .i64 (x4296.length : Int)), (8, .int .i64 s4337)] w4341 (by kernel_rfl) ?_
      refine W_nil ?_
      refine N_then ?_
      refine G_seq ?_
      refine G_region ?_
      refine W_run 3 [(0, .slice p4298 x4296.length c4299), (1, .func (.func 211) #[] #[.pointer (some ⟨b4302, 0, none⟩)]), (5, .int .i64 s4337), (7, .int .i64 (x4296.length : Int)), (8, .int .i64 s4337), (11, .func (.func 211) #[] #[.pointer (some ⟨b4302, 0, none⟩)]), (12, .slice p4298 x4296.length c4299), (13, .int .i64 s4337)] w4341 (by kernel_rfl) ?_
      obtain ⟨y4349, hy4349, hm⟩ := gx_bind hm
      refine W_val (elemP p4298 (s4337.toNat * 3)) w4341 (by kernel_rfl) (E_index (E := encSlot) _ _ _ x4296.length c4299 .i64 s4337 3 (y := y4349) rfl (by kernel_rfl) (by kernel_rfl) (by kernel_rfl) (h4300.mem0 M4342) rfl hy4349) ?_
      refine W_val (.agg #[.int .i64 y4349.State, .int .i64 y4349.Irq, .int .i64 y4349.Priority]) w4341 (by kernel_rfl) (E_loadE (E := encSlot) _ _ true 3 s4337 0 (s4337.toNat * 3) y4349 (.agg #[.int .i64 y4349.State, .int .i64 y4349.Irq, .int .i64 y4349.Priority]) rfl (by kernel_rfl) (by kernel_rfl) (by kernel_rfl) (h4300.mem0 M4342) hy4349 rfl) ?_
      obtain ⟨r4350, hr4350, hm⟩ := gx_bind hm
      refine W_call 211 #[.agg #[.int .i64 y4349.State, .int .i64 y4349.Irq, .int .i64 y4349.Priority], .pointer (some ⟨b4302, 0, none⟩)] (by kernel_rfl) (by kernel_rfl) ?_
      refine (c_i_findSlot_1 w4341 y4349 x4301 b4302 (M4342.ro hb4303) hr4350).mono ?_
      rintro e_ w4351 ⟨rfl, K4352⟩
      have M4353 := M4342.call0 K4352
      refine ⟨_, rfl, ?_⟩
      refine W_nil ?_
      refine N_then ?_
      rcases gx_bif hm with ⟨hc4354, hm⟩ | ⟨hc4354, hm⟩
      · refine G_cond_t (b := r4350) hc4354 (by kernel_rfl) ?_
        refine G_seq ?_
        refine G_region ?_
        refine W_run 2 [(4, .int .i64 s4337)] w4351 (by kernel_rfl) ?_
        refine W_nil ?_
        refine N_then ?_
        refine G_ret ?_
        refine N_block_ret ?_
        refine N_then_ret ?_
        refine N_then_ret ?_
        obtain rfl := Option.some.inj hm
        obtain rfl := hout4339 _ rfl
        have hm := hmo4346; simp only [Sum.elim_inr] at hm
        refine N_block_ret ?_
        refine N_meet_ret ?_
        refine N_then_ret ?_
        obtain rfl := Option.some.inj hm
        refine N_ret [.int .i64 s4337] (RVs_cons (RV_tmp (by kernel_rfl)) RVs_nil) ?_
        exact ⟨rfl, M4353.pick [] (by kernel_rfl)⟩
      · refine G_cond_f (b := r4350) hc4354 (by kernel_rfl) ?_
        refine G_skip ?_
        refine N_block ?_
        refine N_then ?_
        refine G_region ?_
        refine W_run 2 [(0, .slice p4298 x4296.length c4299), (1, .func (.func 211) #[] #[.pointer (some ⟨b4302, 0, none⟩)]), (7, .int .i64 (x4296.length : Int)), (8, .int .i64 (w64 (s4337 + 1)))] w4351 (by kernel_rfl) ?_
        refine W_nil ?_
        obtain rfl := Option.some.inj hm
        exact N_loop fun a ha => ⟨_, rfl, M4353.pick [] (by kernel_rfl), ha.sub (by kernel_rfl)⟩
    · refine G_cond_f (b := (decide (s4337 < (x4296.length : Int)))) hc4348 (by kernel_rfl) ?_
      refine G_exit ?_
      refine N_then_exit ?_
      refine N_then_exit ?_
      refine N_block_eq ?_
      obtain rfl := Option.some.inj hm
      obtain rfl := hout4339 _ rfl
      exact N_meet fun a ha => ⟨_, rfl, M4342.pick [] (by kernel_rfl), ha.sub (by kernel_rfl)⟩
  · intro a4355 w4356 ⟨o4347, hout_, M4357, hS4358⟩
    refine N_use hS4358 ?_
    subst hout_
    have hm := hmo4346; simp only [Sum.elim_inl] at hm
    refine N_then ?_
    refine G_seq ?_
    refine G_region ?_
    refine W_run 1 [(4, .int .i64 (-1))] w4356 (by kernel_rfl) ?_
    refine W_nil ?_
    refine N_then ?_
    refine G_ret ?_
    obtain rfl := Option.some.inj hm
    refine N_ret [.int .i64 (-1)] (RVs_cons (RV_tmp (by kernel_rfl)) RVs_nil) ?_
    exact ⟨rfl, M4357.pick [] (by kernel_rfl)⟩
theorem c_i_findSlot (w : World) (x4286 : List Slot) (p4288 : Option Addr) (c4289 : Nat) (h4290 : rdS encSlot w x4286 p4288 c4289) (x4291 : Int) {r : Int} (hm : M.i_findSlot x4286 x4291 = some r) :
    Calls Tryz.prog 165 #[.slice p4288 x4286.length c4289, .int .i64 x4291] w fun e w' => e = .returned (.int .i64 r) ∧ Mem [] w w' [] := by
  unfold M.i_findSlot at hm
  refine C_enter Tryz.func165 rfl (by kernel_rfl) ?_
  have M0 := Mem.refl [] w
  refine G_seq ?_
  refine G_region ?_
  refine W_new (fun b => .pointer (some ⟨b, 0, none⟩)) (.cells ⟨[.int .i64 x4291]⟩ 3 (0, 0)) M0 rfl (by kernel_rfl) (by kernel_rfl) ?_
  intro b4293 w4294 M4295
  refine W_run 1 [(0, .slice p4288 x4286.length c4289), (3, .pointer (some ⟨b4293, 0, none⟩))] w4294 (by kernel_rfl) ?_
  refine W_nil ?_
  refine N_then ?_
  refine G_seq ?_
  refine G_region ?_
  refine W_run 2 [(5, .slice p4288 x4286.length c4289), (6, .func (.func 211) #[] #[.pointer (some ⟨b4293, 0, none⟩)])] w4294 (by kernel_rfl) ?_
  obtain ⟨r4359, hr4359, hm⟩ := gx_bind hm
  refine W_call 210 #[.slice p4288 x4286.length c4289, .func (.func 211) #[] #[.pointer (some ⟨b4293, 0, none⟩)]] (by kernel_rfl) (by kernel_rfl) ?_
  refine (c_slices_IndexFunc_210__i_findSlot_1 w4294 x4286 p4288 c4289 (h4290.mem0 M4295) x4291 b4293 (M4295.blk 0 (b := b4293) (o := .cells ⟨[.int .i64 x4291]⟩ 3 (0, 0)) (by kernel_rfl)) hr4359).mono ?_
  rintro e_ w4360 ⟨rfl, K4361⟩
  have M4362 := M4295.call0 K4361
  refine ⟨_, rfl, ?_⟩
  refine W_run 1 [(4, .int .i64 r4359)] w4360 (by kernel_rfl) ?_
  refine W_nil ?_
  refine N_then ?_
  refine G_ret ?_
  obtain rfl := Option.some.inj hm
  refine N_ret [.int .i64 r4359] (RVs_cons (RV_tmp (by kernel_rfl)) RVs_nil) ?_
  exact ⟨rfl, M4362.pick [] (by kernel_rfl)⟩
theorem c_i_AreSlots (w : World) (x4242 : List Slot) (p4244 : Option Addr) (c4245 : Nat) (h4246 : rdS encSlot w x4242 p4244 c4245) {r : Bool} (hm : M.i_AreSlots x4242 = some r) :
    Calls Tryz.prog 195 #[.slice p4244 x4242.length c4245] w fun e w' => e = .returned (.bool r) ∧ Mem [] w w' [] := by
  unfold M.i_AreSlots at hm
  refine C_enter Tryz.func195 rfl (by kernel_rfl) ?_
  have M0 := Mem.refl [] w
  refine G_seq ?_
  refine G_region ?_
  refine W_run 1 [(0, .slice p4244 x4242.length c4245)] w (by kernel_rfl) ?_
  refine W_nil ?_
  refine N_then ?_
  refine G_seq ?_
  refine G_seq ?_
  refine G_region ?_
  refine W_run 3 [(0, .slice p4244 x4242.length c4245), (7, .bool ((x4242.length : Int) != 4))] w (by kernel_rfl) ?_
  refine W_nil ?_
  refine N_then ?_
  rcases gx_bif hm with ⟨hc4247, hm⟩ | ⟨hc4247, hm⟩
  · refine G_cond_t (b := ((x4242.length : Int) != 4)) hc4247 (by kernel_rfl) ?_
    refine G_seq ?_
    refine G_region ?_
    refine W_run 1 [(2, .bool false)] w (by kernel_rfl) ?_
    refine W_nil ?_
    refine N_then ?_
    refine G_ret ?_
    refine N_then_ret ?_
    obtain rfl := Option.some.inj hm
    refine N_ret [.bool false] (RVs_cons (RV_tmp (by kernel_rfl)) RVs_nil) ?_
    exact ⟨rfl, M0.pick [] (by kernel_rfl)⟩
  · refine G_cond_f (b := ((x4242.length : Int) != 4)) hc4247 (by kernel_rfl) ?_
    refine G_skip ?_
    refine N_then ?_
    refine G_seq ?_
    refine G_seq ?_
    refine G_region ?_
    refine W_run 3 [(0, .slice p4244 x4242.length c4245), (8, .slice p4244 x4242.length c4245), (9, .int .i64 (x4242.length : Int)), (10, .int .i64 0)] w (by kernel_rfl) ?_
    refine W_nil ?_
    refine N_then ?_
    obtain ⟨out4489, hw4490, hmo4491⟩ := gx_bind hm
    refine G_meet (fun a w' => ∃ (o4492 : Unit), out4489 = .inl o4492 ∧ Mem [] w w' [] ∧ Sat Tryz.f195.ntmps [] a) ?_ ?_
    · refine G_block ?_
      refine G_while (σ := Int) (ρ := (Unit) ⊕ (Bool)) (fun s4482 a w' => Mem [] w w' [] ∧ Sat Tryz.f195.ntmps [(0, .slice p4244 x4242.length c4245), (8, .slice p4244 x4242.length c4245), (9, .int .i64 (x4242.length : Int)), (10, .int .i64 s4482)] a) hw4490 (fun a ha => ⟨M0.pick [] (by kernel_rfl), ha.sub (by kernel_rfl)⟩) ?_
      clear hm
      intro s4482 x4483 hm hout4484 a4485 w4486 ⟨M4487, hS4488⟩
      refine G_use hS4488 ?_
      refine G_seq ?_
      refine G_region ?_
      refine W_run 1 [(0, .slice p4244 x4242.length c4245), (8, .slice p4244 x4242.length c4245), (9, .int .i64 (x4242.length : Int)), (10, .int .i64 s4482), (11, .bool (decide (s4482 < (x4242.length : Int))))] w4486 (by kernel_rfl) ?_
      refine W_nil ?_
      refine N_then ?_
      refine G_seq ?_
      rcases gx_bif hm with ⟨hc4493, hm⟩ | ⟨hc4493, hm⟩
      · refine G_cond_t (b := (decide (s4482 < (x4242.length : Int)))) hc4493 (by kernel_rfl) ?_
        refine G_skip ?_
        refine N_then ?_
        refine G_seq ?_
        refine G_block ?_
        refine G_seq ?_
        refine G_region ?_
        refine W_run 1 [(0, .slice p4244 x4242.length c4245), (8, .slice p4244 x4242.length c4245), (9, .int .i64 (x4242.length : Int)), (10, .int .i64 s4482), (12, .int .i64 s4482)] w4486 (by kernel_rfl) ?_
        obtain ⟨y4494, hy4494, hm⟩ := gx_bind hm
        refine W_val (elemP p4244 (s4482.toNat * 3)) w4486 (by kernel_rfl) (E_index (E := encSlot) _ _ _ x4242.length c4245 .i64 s4482 3 (y := y4494) rfl (by kernel_rfl) (by kernel_rfl) (by kernel_rfl) (h4246.mem0 M4487) rfl hy4494) ?_
        refine W_val (.agg #[.int .i64 y4494.State, .int .i64 y4494.Irq, .int .i64 y4494.Priority]) w4486 (by kernel_rfl) (E_loadE (E := encSlot) _ _ true 3 s4482 0 (s4482.toNat * 3) y4494 (.agg #[.int .i64 y4494.State, .int .i64 y4494.Irq, .int .i64 y4494.Priority]) rfl (by kernel_rfl) (by kernel_rfl) (by kernel_rfl) (h4246.mem0 M4487) hy4494 rfl) ?_
        refine W_new (fun b => .pointer (some ⟨b, 0, none⟩)) (.cells ⟨[.int .i64 0, .int .i64 0, .int .i64 0]⟩ 117 (0, 0)) M4487 rfl (by kernel_rfl) (by kernel_rfl) ?_
        intro b4496 w4497 M4498
        refine W_run 1 [(0, .slice p4244 x4242.length c4245), (3, .int .i64 s4482), (4, .pointer (some ⟨b4496, 0, none⟩)), (8, .slice p4244 x4242.length c4245), (9, .int .i64 (x4242.length : Int)), (10, .int .i64 s4482), (14, .agg #[.int .i64 y4494.State, .int .i64 y4494.Irq, .int .i64 y4494.Priority])] w4497 (by kernel_rfl) ?_
        refine W_store _ _ _ true 3 b4496 0 [.int .i64 0, .int .i64 0, .int .i64 0] 117 (.agg #[.int .i64 y4494.State, .int .i64 y4494.Irq, .int .i64 y4494.Priority]) 0 [.int .i64 y4494.State, .int .i64 y4494.Irq, .int .i64 y4494.Priority] M4498 (by kernel_rfl) rfl (by kernel_rfl) (by kernel_rfl) (by kernel_rfl) (by kernel_rfl) (by kernel_rfl) (by kernel_rfl) (by kernel_rfl) (by kernel_rfl) ?_
        intro w4499 M4500
        refine W_nil ?_
        refine N_then ?_
        refine G_seq ?_
        refine G_seq ?_
        refine G_region ?_
        refine W_run 1 [(0, .slice p4244 x4242.length c4245), (3, .int .i64 s4482), (4, .pointer (some ⟨b4496, 0, none⟩)), (8, .slice p4244 x4242.length c4245), (9, .int .i64 (x4242.length : Int)), (10, .int .i64 s4482), (15, .pointer (some ⟨b4496, 0, none⟩))] w4499 (by kernel_rfl) ?_
        refine W_val (.int .i64 y4494.State) w4499 (by kernel_rfl) (E_load (e := 117) (fr := (0, 0)) _ _ false 1 b4496 0 [.int .i64 y4494.State, .int .i64 y4494.Irq, .int .i64 y4494.Priority] (.int .i64 y4494.State) rfl (by kernel_rfl) (by kernel_rfl) (by kernel_rfl) (M4500.blk 0 (b := b4496) (o := .cells ⟨[.int .i64 y4494.State, .int .i64 y4494.Irq, .int .i64 y4494.Priority]⟩ 117 (0, 0)) (by kernel_rfl))) ?_
        refine W_run 1 [(0, .slice p4244 x4242.length c4245), (3, .int .i64 s4482), (4, .pointer (some ⟨b4496, 0, none⟩)), (8, .slice p4244 x4242.length c4245), (9, .int .i64 (x4242.length : Int)), (10, .int .i64 s4482), (17, .bool (y4494.State == 0))] w4499 (by kernel_rfl) ?_
        refine W_nil ?_
        refine N_then ?_
        rcases gx_bif hm with ⟨hc4501, hm⟩ | ⟨hc4501, hm⟩
        · refine G_cond_t (b := (y4494.State == 0)) hc4501 (by kernel_rfl) ?_
          refine G_seq ?_
          refine G_seq ?_
          refine G_region ?_
          refine W_val (.agg #[.int .i64 y4494.State, .int .i64 y4494.Irq, .int .i64 y4494.Priority]) w4499 (by kernel_rfl) (E_load (e := 117) (fr := (0, 0)) _ _ true 3 b4496 0 [.int .i64 y4494.State, .int .i64 y4494.Irq, .int .i64 y4494.Priority] (.agg #[.int .i64 y4494.State, .int .i64 y4494.Irq, .int .i64 y4494.Priority]) rfl (by kernel_rfl) (by kernel_rfl) (by kernel_rfl) (M4500.blk 0 (b := b4496) (o := .cells ⟨[.int .i64 y4494.State, .int .i64 y4494.Irq, .int .i64 y4494.Priority]⟩ 117 (0, 0)) (by kernel_rfl))) ?_
          refine W_run 1 [(0, .slice p4244 x4242.length c4245), (8, .slice p4244 x4242.length c4245), (9, .int .i64 (x4242.length : Int)), (10, .int .i64 s4482), (18, .agg #[.int .i64 y4494.State, .int .i64 y4494.Irq, .int .i64 y4494.Priority]), (19, .agg #[.int .i64 0, .int .i64 0, .int .i64 0])] w4499 (by kernel_rfl) ?_
          refine W_val (.bool (!((y4494.State == 0) && ((y4494.Irq == 0) && ((y4494.Priority == 0) && true))))) w4499 (by kernel_rfl) (E_neqAgg _ _ _ _ [.int .i64 y4494.State, .int .i64 y4494.Irq, .int .i64 y4494.Priority] [.int .i64 0, .int .i64 0, .int .i64 0] ((y4494.State == 0) && ((y4494.Irq == 0) && ((y4494.Priority == 0) && true))) rfl (by kernel_rfl) (by kernel_rfl) (by kernel_rfl) (by kernel_rfl) (by kernel_rfl) (by kernel_rfl)) ?_
          refine W_nil ?_
          refine N_then ?_
          rcases gx_bif hm with ⟨hc4502, hm⟩ | ⟨hc4502, hm⟩
          · refine G_cond_t (b := (!((y4494.State == 0) && ((y4494.Irq == 0) && ((y4494.Priority == 0) && true))))) hc4502 (by kernel_rfl) ?_
            refine G_seq ?_
            refine G_region ?_
            refine W_run 1 [(2, .bool false)] w4499 (by kernel_rfl) ?_
            refine W_nil ?_
            refine N_then ?_
            refine G_ret ?_
            refine N_then_ret ?_
            refine N_then_ret ?_
            refine N_block_ret ?_
            refine N_then_ret ?_
            refine N_then_ret ?_
            obtain rfl := Option.some.inj hm
            obtain rfl := hout4484 _ rfl
            have hm := hmo4491; simp only [Sum.elim_inr] at hm
            refine N_block_ret ?_
            refine N_meet_ret ?_
            refine N_then_ret ?_
            obtain rfl := Option.some.inj hm
            refine N_ret [.bool false] (RVs_cons (RV_tmp (by kernel_rfl)) RVs_nil) ?_
            exact ⟨rfl, M4500.pick [] (by kernel_rfl)⟩
          · refine G_cond_f (b := (!((y4494.State == 0) && ((y4494.Irq == 0) && ((y4494.Priority == 0) && true))))) hc4502 (by kernel_rfl) ?_
            refine G_skip ?_
            refine N_then ?_
            refine G_exit ?_
            refine N_then_exit ?_
            refine N_block_eq ?_
            refine N_then ?_
            refine G_region ?_
            refine W_run 2 [(0, .slice p4244 x4242.length c4245), (8, .slice p4244 x4242.length c4245), (9, .int .i64 (x4242.length : Int)), (10, .int .i64 (w64 (s4482 + 1)))] w4499 (by kernel_rfl) ?_
            refine W_nil ?_
            obtain rfl := Option.some.inj hm
            exact N_loop fun a ha => ⟨_, rfl, M4500.pick [] (by kernel_rfl), ha.sub (by kernel_rfl)⟩
        · refine G_cond_f (b := (y4494.State == 0)) hc4501 (by kernel_rfl) ?_
          refine G_skip ?_
          refine N_then ?_
          refine G_seq ?_
          obtain ⟨o4532, ho4533, hm4534⟩ := gx_bind hm
          refine G_meet (fun a w' => Mem [] w w' [] ∧ Sat Tryz.f195.ntmps [(0, .slice p4244 x4242.length c4245), (8, .slice p4244 x4242.length c4245), (9, .int .i64 (x4242.length : Int)), (10, .int .i64 s4482), (45, .bool o4532)] a) ?_ ?_
          · have hm := ho4533
            refine G_quiet (by kernel_rfl) (by kernel_rfl) M4500 ?_
            refine Z_runs [.pointer (some ⟨b4496, 0, none⟩)] [(0, .slice p4244 x4242.length c4245), (3, .int .i64 s4482), (4, .pointer (some ⟨b4496, 0, none⟩)), (8, .slice p4244 x4242.length c4245), (9, .int .i64 (x4242.length : Int)), (10, .int .i64 s4482), (21, .pointer (some ⟨b4496, 0, none⟩))] (fun w_ => by kernel_rfl) (by kernel_rfl) ?_
            refine Z_val (.int .i64 y4494.State) (by kernel_rfl) (fun w_ M_ => (E_load (e := 117) (fr := (0, 0)) _ _ false 1 b4496 0 [.int .i64 y4494.State, .int .i64 y4494.Irq, .int .i64 y4494.Priority] (.int .i64 y4494.State) rfl (by kernel_rfl) (by kernel_rfl) (by kernel_rfl) (M_.blk 0 (b := b4496) (o := .cells ⟨[.int .i64 y4494.State, .int .i64 y4494.Irq, .int .i64 y4494.Priority]⟩ 117 (0, 0)) (by kernel_rfl)))) ?_
            obtain ⟨r4535, hr4535, hm⟩ := gx_bind hm
            refine Z_call 108 #[.int .i64 y4494.State, .int .i64 1, .int .i64 3] (.bool r4535) (by kernel_rfl) (fun w_ => by kernel_rfl) (fun w_ M_ => (c_i_inside w_ y4494.State 1 3 hr4535).mono fun e w2_ h_ => ⟨h_.1, M_.call0 h_.2⟩) ?_
            refine Z_runs [.bool (!r4535), .bool (!r4535)] [(0, .slice p4244 x4242.length c4245), (3, .int .i64 s4482), (4, .pointer (some ⟨b4496, 0, none⟩)), (8, .slice p4244 x4242.length c4245), (9, .int .i64 (x4242.length : Int)), (10, .int .i64 s4482), (25, .bool (!r4535))] (fun w_ => by kernel_rfl) (by kernel_rfl) ?_
            rcases gx_bif hm with ⟨hc4539, hm⟩ | ⟨hc4539, hm⟩
            · refine Z_known 25 true (by kernel_rfl) hc4539 ?_
              refine Z_runs [undef, undef, undef, undef, .bool true, .bool true, undef, undef, undef, undef, .bool true, .bool true, undef, undef, undef, undef, undef, undef, undef, .bool true] [(0, .slice p4244 x4242.length c4245), (8, .slice p4244 x4242.length c4245), (9, .int .i64 (x4242.length : Int)), (10, .int .i64 s4482), (45, .bool true)] (fun w_ => by kernel_rfl) (by kernel_rfl) ?_
              refine Z_end fun w4540 M4541 => ?_
              obtain rfl := Option.some.inj hm
              exact N_meet fun a ha => ⟨M4541.pick [] (by kernel_rfl), ha.sub (by kernel_rfl)⟩
            · refine Z_known 25 false (by kernel_rfl) hc4539 ?_
              refine Z_runs [.pointer (some ⟨b4496, 1, none⟩)] [(0, .slice p4244 x4242.length c4245), (3, .int .i64 s4482), (4, .pointer (some ⟨b4496, 0, none⟩)), (8, .slice p4244 x4242.length c4245), (9, .int .i64 (x4242.length : Int)), (10, .int .i64 s4482), (25, .bool false), (26, .pointer (some ⟨b4496, 1, none⟩))] (fun w_ => by kernel_rfl) (by kernel_rfl) ?_
              refine Z_val (.int .i64 y4494.Irq) (by kernel_rfl) (fun w_ M_ => (E_load (e := 117) (fr := (0, 0)) _ _ false 1 b4496 1 [.int .i64 y4494.State, .int .i64 y4494.Irq, .int .i64 y4494.Priority] (.int .i64 y4494.Irq) rfl (by kernel_rfl) (by kernel_rfl) (by kernel_rfl) (M_.blk 0 (b := b4496) (o := .cells ⟨[.int .i64 y4494.State, .int .i64 y4494.Irq, .int .i64 y4494.Priority]⟩ 117 (0, 0)) (by kernel_rfl)))) ?_
              obtain ⟨r4542, hr4542, hm⟩ := gx_bind hm
              refine Z_call 144 #[.int .i64 y4494.Irq] (.bool r4542) (by kernel_rfl) (fun w_ => by kernel_rfl) (fun w_ M_ => (c_i_isIrq w_ y4494.Irq hr4542).mono fun e w2_ h_ => ⟨h_.1, M_.call0 h_.2⟩) ?_
              refine Z_runs [.bool (!r4542), .bool (!r4542), .bool (!r4542)] [(0, .slice p4244 x4242.length c4245), (3, .int .i64 s4482), (4, .pointer (some ⟨b4496, 0, none⟩)), (8, .slice p4244 x4242.length c4245), (9, .int .i64 (x4242.length : Int)), (10, .int .i64 s4482), (31, .bool (!r4542))] (fun w_ => by kernel_rfl) (by kernel_rfl) ?_
              rcases gx_bif hm with ⟨hc4546, hm⟩ | ⟨hc4546, hm⟩
              · refine Z_known 31 true (by kernel_rfl) hc4546 ?_
                refine Z_runs [undef, undef, undef, undef, .bool true, .bool true, undef, undef, undef, undef, undef, undef, undef, .bool true] [(0, .slice p4244 x4242.length c4245), (8, .slice p4244 x4242.length c4245), (9, .int .i64 (x4242.length : Int)), (10, .int .i64 s4482), (45, .bool true)] (fun w_ => by kernel_rfl) (by kernel_rfl) ?_
                refine Z_end fun w4547 M4548 => ?_
                obtain rfl := Option.some.inj hm
                exact N_meet fun a ha => ⟨M4548.pick [] (by kernel_rfl), ha.sub (by kernel_rfl)⟩
              · refine Z_known 31 false (by kernel_rfl) hc4546 ?_
                refine Z_runs [.pointer (some ⟨b4496, 2, none⟩)] [(0, .slice p4244 x4242.length c4245), (3, .int .i64 s4482), (4, .pointer (some ⟨b4496, 0, none⟩)), (8, .slice p4244 x4242.length c4245), (9, .int .i64 (x4242.length : Int)), (10, .int .i64 s4482), (31, .bool false), (32, .pointer (some ⟨b4496, 2, none⟩))] (fun w_ => by kernel_rfl) (by kernel_rfl) ?_
                refine Z_val (.int .i64 y4494.Priority) (by kernel_rfl) (fun w_ M_ => (E_load (e := 117) (fr := (0, 0)) _ _ false 1 b4496 2 [.int .i64 y4494.State, .int .i64 y4494.Irq, .int .i64 y4494.Priority] (.int .i64 y4494.Priority) rfl (by kernel_rfl) (by kernel_rfl) (by kernel_rfl) (M_.blk 0 (b := b4496) (o := .cells ⟨[.int .i64 y4494.State, .int .i64 y4494.Irq, .int .i64 y4494.Priority]⟩ 117 (0, 0)) (by kernel_rfl)))) ?_
                obtain ⟨r4549, hr4549, hm⟩ := gx_bind hm
                refine Z_call 111 #[.int .i64 y4494.Priority] (.bool r4549) (by kernel_rfl) (fun w_ => by kernel_rfl) (fun w_ M_ => (c_i_isPriority w_ y4494.Priority hr4549).mono fun e w2_ h_ => ⟨h_.1, M_.call0 h_.2⟩) ?_
                refine Z_runs [.bool (!r4549), .bool (!r4549), .bool (!r4549)] [(0, .slice p4244 x4242.length c4245), (3, .int .i64 s4482), (4, .pointer (some ⟨b4496, 0, none⟩)), (8, .slice p4244 x4242.length c4245), (9, .int .i64 (x4242.length : Int)), (10, .int .i64 s4482), (37, .bool (!r4549))] (fun w_ => by kernel_rfl) (by kernel_rfl) ?_
                rcases gx_bif hm with ⟨hc4553, hm⟩ | ⟨hc4553, hm⟩
                · refine Z_known 37 true (by kernel_rfl) hc4553 ?_
                  refine Z_runs [undef, undef, undef, undef, undef, undef, undef, .bool true] [(0, .slice p4244 x4242.length c4245), (8, .slice p4244 x4242.length c4245), (9, .int .i64 (x4242.length : Int)), (10, .int .i64 s4482), (45, .bool true)] (fun w_ => by kernel_rfl) (by kernel_rfl) ?_
                  refine Z_end fun w4554 M4555 => ?_
                  obtain rfl := Option.some.inj hm
                  exact N_meet fun a ha => ⟨M4555.pick [] (by kernel_rfl), ha.sub (by kernel_rfl)⟩
                · refine Z_known 37 false (by kernel_rfl) hc4553 ?_
                  refine Z_runs [.slice p4244 x4242.length c4245, .int .i64 s4482] [(0, .slice p4244 x4242.length c4245), (4, .pointer (some ⟨b4496, 0, none⟩)), (8, .slice p4244 x4242.length c4245), (9, .int .i64 (x4242.length : Int)), (10, .int .i64 s4482), (37, .bool false), (38, .slice p4244 x4242.length c4245), (39, .int .i64 s4482)] (fun w_ => by kernel_rfl) (by kernel_rfl) ?_
                  obtain ⟨ys4556, hys4556, hm⟩ := gx_bind hm
                  refine Z_val (.slice (subP p4244 (0 : Int).toNat c4245 3) ys4556.length (c4245 - (0 : Int).toNat)) (by kernel_rfl) (fun w_ M_ => (E_slice (E := encSlot) _ _ _ _ x4242.length 0 s4482 rfl (by kernel_rfl) (Or.inl ⟨rfl, rfl⟩) (Or.inr ⟨_, rfl, by kernel_rfl⟩) (by kernel_rfl) (h4246.mem0 M_) rfl hys4556)) ?_
                  refine Z_runs [.pointer (some ⟨b4496, 1, none⟩)] [(0, .slice p4244 x4242.length c4245), (8, .slice p4244 x4242.length c4245), (9, .int .i64 (x4242.length : Int)), (10, .int .i64 s4482), (37, .bool false), (40, .slice (subP p4244 (0 : Int).toNat c4245 3) ys4556.length (c4245 - (0 : Int).toNat)), (41, .pointer (some ⟨b4496, 1, none⟩))] (fun w_ => by kernel_rfl) (by kernel_rfl) ?_
                  refine Z_val (.int .i64 y4494.Irq) (by kernel_rfl) (fun w_ M_ => (E_load (e := 117) (fr := (0, 0)) _ _ false 1 b4496 1 [.int .i64 y4494.State, .int .i64 y4494.Irq, .int .i64 y4494.Priority] (.int .i64 y4494.Irq) rfl (by kernel_rfl) (by kernel_rfl) (by kernel_rfl) (M_.blk 0 (b := b4496) (o := .cells ⟨[.int .i64 y4494.State, .int .i64 y4494.Irq, .int .i64 y4494.Priority]⟩ 117 (0, 0)) (by kernel_rfl)))) ?_
                  obtain ⟨r4558, hr4558, hm⟩ := gx_bind hm
                  refine Z_call 165 #[.slice (subP p4244 (0 : Int).toNat c4245 3) ys4556.length (c4245 - (0 : Int).toNat), .int .i64 y4494.Irq] (.int .i64 r4558) (by kernel_rfl) (fun w_ => by kernel_rfl) (fun w_ M_ => (c_i_findSlot w_ ys4556 (subP p4244 (0 : Int).toNat c4245 3) (c4245 - (0 : Int).toNat) ((h4246.mem0 M_).sliceM hys4556) y4494.Irq hr4558).mono fun e w2_ h_ => ⟨h_.1, M_.call0 h_.2⟩) ?_
                  refine Z_runs [.bool (decide (r4558 ≥ 0)), .bool (decide (r4558 ≥ 0))] [(0, .slice p4244 x4242.length c4245), (8, .slice p4244 x4242.length c4245), (9, .int .i64 (x4242.length : Int)), (10, .int .i64 s4482), (45, .bool (decide (r4558 ≥ 0)))] (fun w_ => by kernel_rfl) (by kernel_rfl) ?_
                  refine Z_end fun w4562 M4563 => ?_
                  obtain rfl := Option.some.inj hm
                  exact N_meet fun a ha => ⟨M4563.pick [] (by kernel_rfl), ha.sub (by kernel_rfl)⟩
          · intro a4566 w4564 ⟨M4565, hS4567⟩
            refine N_use hS4567 ?_
            have hm := hm4534
            refine N_then ?_
            rcases gx_bif hm with ⟨hc4568, hm⟩ | ⟨hc4568, hm⟩
            · refine G_cond_t (b := o4532) hc4568 (by kernel_rfl) ?_
              refine G_seq ?_
              refine G_region ?_
              refine W_run 1 [(2, .bool false)] w4564 (by kernel_rfl) ?_
              refine W_nil ?_
              refine N_then ?_
              refine G_ret ?_
              refine N_block_ret ?_
              refine N_then_ret ?_
              refine N_then_ret ?_
              obtain rfl := Option.some.inj hm
              obtain rfl := hout4484 _ rfl
              have hm := hmo4491; simp only [Sum.elim_inr] at hm
              refine N_block_ret ?_
              refine N_meet_ret ?_
              refine N_then_ret ?_
              obtain rfl := Option.some.inj hm
              refine N_ret [.bool false] (RVs_cons (RV_tmp (by kernel_rfl)) RVs_nil) ?_
              exact ⟨rfl, M4565.pick [] (by kernel_rfl)⟩
            · refine G_cond_f (b := o4532) hc4568 (by kernel_rfl) ?_
              refine G_skip ?_
              refine N_block ?_
              refine N_then ?_
              refine G_region ?_
              refine W_run 2 [(0, .slice p4244 x4242.length c4245), (8, .slice p4244 x4242.length c4245), (9, .int .i64 (x4242.length : Int)), (10, .int .i64 (w64 (s4482 + 1)))] w4564 (by kernel_rfl) ?_
              refine W_nil ?_
              obtain rfl := Option.some.inj hm
              exact N_loop fun a ha => ⟨_, rfl, M4565.pick [] (by kernel_rfl), ha.sub (by kernel_rfl)⟩
      · refine G_cond_f (b := (decide (s4482 < (x4242.length : Int)))) hc4493 (by kernel_rfl) ?_
        refine G_exit ?_
        refine N_then_exit ?_
        refine N_then_exit ?_
        refine N_block_eq ?_
        obtain rfl := Option.some.inj hm
        obtain rfl := hout4484 _ rfl
        exact N_meet fun a ha => ⟨_, rfl, M4487.pick [] (by kernel_rfl), ha.sub (by kernel_rfl)⟩
    · intro a4569 w4570 ⟨o4492, hout_, M4571, hS4572⟩
      refine N_use hS4572 ?_
      subst hout_
      have hm := hmo4491; simp only [Sum.elim_inl] at hm
      refine N_then ?_
      refine G_seq ?_
      refine G_region ?_
      refine W_run 1 [(2, .bool true)] w4570 (by kernel_rfl) ?_
      refine W_nil ?_
      refine N_then ?_
      refine G_ret ?_
      obtain rfl := Option.some.inj hm
      refine N_ret [.bool true] (RVs_cons (RV_tmp (by kernel_rfl)) RVs_nil) ?_
      exact ⟨rfl, M4571.pick [] (by kernel_rfl)⟩
theorem c_i_waiterIndex_1 (w : World) (x4630 : Waiter) (x4631 : Int) (b4632 : Nat) (hb4633 : w.heap[b4632]? = some (.cells ⟨[.int .i64 x4631]⟩ 3 (0, 0))) {r : Bool} (hm : M.i_waiterIndex_1 x4630 x4631 = some r) :
    Calls Tryz.prog 239 #[.agg #[.int .i64 x4630.Irq, .int .i64 x4630.Priority], .pointer (some ⟨b4632, 0, none⟩)] w fun e w' => e = .returned (.bool r) ∧ Mem [] w w' [] := by
  unfold M.i_waiterIndex_1 at hm
  refine C_enter Tryz.func239 rfl (by kernel_rfl) ?_
  have M0 := Mem.refl [] w
  refine G_seq ?_
  refine G_region ?_
  refine W_new (fun b => .pointer (some ⟨b, 0, none⟩)) (.cells ⟨[.int .i64 x4630.Irq, .int .i64 x4630.Priority]⟩ 142 (0, 0)) M0 rfl (by kernel_rfl) (by kernel_rfl) ?_
  intro b4636 w4637 M4638
  refine W_run 1 [(1, .pointer (some ⟨b4632, 0, none⟩)), (2, .pointer (some ⟨b4636, 0, none⟩))] w4637 (by kernel_rfl) ?_
  refine W_nil ?_
  refine N_then ?_
  refine G_seq ?_
  refine G_region ?_
  refine W_run 1 [(1, .pointer (some ⟨b4632, 0, none⟩)), (4, .pointer (some ⟨b4636, 0, none⟩))] w4637 (by kernel_rfl) ?_
  refine W_val (.int .i64 x4630.Irq) w4637 (by kernel_rfl) (E_load (e := 142) (fr := (0, 0)) _ _ false 1 b4636 0 [.int .i64 x4630.Irq, .int .i64 x4630.Priority] (.int .i64 x4630.Irq) rfl (by kernel_rfl) (by kernel_rfl) (by kernel_rfl) (M4638.blk 0 (b := b4636) (o := .cells ⟨[.int .i64 x4630.Irq, .int .i64 x4630.Priority]⟩ 142 (0, 0)) (by kernel_rfl))) ?_
  refine W_val (.int .i64 x4631) w4637 (by kernel_rfl) (E_load (e := 3) (fr := (0, 0)) _ _ false 1 b4632 0 [.int .i64 x4631] (.int .i64 x4631) rfl (by kernel_rfl) (by kernel_rfl) (by kernel_rfl) (M4638.ro hb4633)) ?_
  refine W_run 2 [(3, .bool (x4630.Irq == x4631))] w4637 (by kernel_rfl) ?_
  refine W_nil ?_
  refine N_then ?_
  refine G_ret ?_
  obtain rfl := Option.some.inj hm
  refine N_ret [.bool (x4630.Irq == x4631)] (RVs_cons (RV_tmp (by kernel_rfl)) RVs_nil) ?_
  exact ⟨rfl, M4638.pick [] (by kernel_rfl)⟩
end Go.Proofs.YtllhajkgkghhdaaGreat
