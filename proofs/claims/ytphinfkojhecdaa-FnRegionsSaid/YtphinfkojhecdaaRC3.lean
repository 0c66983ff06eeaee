/- The walks, printed by program: whenever the model gives r, the call returns r. Part 3. -/
import Derived.Test.YtphinfkojhecdaaRM
import Derived.Test.YtphinfkojhecdaaProg
import Derived.Test.YtphinfkojhecdaaRC2
set_option linter.unusedVariables false
set_option maxRecDepth 100000
set_option maxHeartbeats 4000000
namespace Go.Proofs.Ytphinfkojhecdaa
open Go.Gx
theorem c_l_FnRegions (w : World) (x1 : List Int) (p3 : Option Addr) (c4 : Nat) (h5 : rdS encU8 w x1 p3 c4) {r : Bool} (hm : M.l_FnRegions x1 = some r) :
    Calls Try.prog 11 #[.slice p3 x1.length c4] w fun e w' => e = .returned (.bool r) ∧ Mem [] w w' [] := by
  unfold M.l_FnRegions at hm
  refine C_enter Try.func11 rfl (by kernel_rfl) ?_
  have M0 := Mem.refl [] w
  refine G_seq ?_
  refine G_region ?_
  refine W_run 1 [(0, .slice p3 x1.length c4)] w (by kernel_rfl) ?_
  refine W_nil ?_
  refine N_then ?_
  refine G_seq ?_
  refine G_seq ?_
  refine G_region ?_
  refine W_run 1 [(0, .slice p3 x1.length c4), (40, .slice p3 x1.length c4)] w (by kernel_rfl) ?_
  obtain ⟨r11, hr11, hm⟩ := gx_bind hm
  refine W_call 40 #[.slice p3 x1.length c4] (by kernel_rfl) (by kernel_rfl) ?_
  refine (c_l_rBig w x1 p3 c4 (h5.mem0 M0) hr11).mono ?_
  rintro e_ w12 ⟨rfl, K13⟩
  have M14 := M0.call0 K13
  refine ⟨_, rfl, ?_⟩
  refine W_nil ?_
  refine N_then ?_
  rcases gx_bif hm with ⟨hc15, hm⟩ | ⟨hc15, hm⟩
  · refine G_cond_t (b := r11) hc15 (by kernel_rfl) ?_
    refine G_seq ?_
    refine G_region ?_
    refine W_run 1 [(2, .bool true)] w12 (by kernel_rfl) ?_
    refine W_nil ?_
    refine N_then ?_
    refine G_ret ?_
    refine N_then_ret ?_
    obtain rfl := Option.some.inj hm
    refine N_ret [.bool true] (RVs_cons (RV_tmp (by kernel_rfl)) RVs_nil) ?_
    exact ⟨rfl, M14.pick [] (by kernel_rfl)⟩
  · refine G_cond_f (b := r11) hc15 (by kernel_rfl) ?_
    refine G_skip ?_
    refine N_then ?_
    refine G_seq ?_
    refine G_region ?_
    refine W_run 1 [(0, .slice p3 x1.length c4), (43, .slice p3 x1.length c4)] w12 (by kernel_rfl) ?_
    obtain ⟨r1850, hr1850, hm⟩ := gx_bind hm
    refine W_call 47 #[.slice p3 x1.length c4] (by kernel_rfl) (by kernel_rfl) ?_
    refine (c_s_DrawPlaceRegion w12 x1 p3 c4 (h5.mem0 M14) hr1850).mono ?_
    rintro e_ w1856 ⟨p1852, c1853, sg1854, rfl, ho1855, K1857⟩
    have M1858 := M14.call K1857
    refine ⟨_, rfl, ?_⟩
    refine W_run 5 [(0, .slice p3 x1.length c4), (3, .slice p1852 r1850.1.length c1853), (4, .int .i64 r1850.2)] w1856 (by kernel_rfl) ?_
    refine W_nil ?_
    refine N_then ?_
    refine G_seq ?_
    refine G_region ?_
    refine W_run 2 [(0, .slice p3 x1.length c4), (3, .slice p1852 r1850.1.length c1853), (4, .int .i64 r1850.2), (48, .slice p1852 r1850.1.length c1853), (49, .int .i64 r1850.2)] w1856 (by kernel_rfl) ?_
    obtain ⟨r5334, hr5334, hm⟩ := gx_bind hm
    refine W_call 33 #[.slice p1852 r1850.1.length c1853, .int .i64 r1850.2] (by kernel_rfl) (by kernel_rfl) ?_
    refine (c_i_PlaceRegion w1856 r1850.1 p1852 c1853 (ho1855.rd M1858 0 (by kernel_rfl)) r1850.2 hr5334).mono ?_
    rintro e_ w5335 ⟨rfl, K5336⟩
    have M5337 := M1858.call0 K5336
    refine ⟨_, rfl, ?_⟩
    refine W_run 5 [(0, .slice p3 x1.length c4), (3, .slice p1852 r1850.1.length c1853), (4, .int .i64 r1850.2), (5, .int .i64 r5334.1), (6, .bool r5334.2)] w5335 (by kernel_rfl) ?_
    refine W_nil ?_
    refine N_then ?_
    refine G_seq ?_
    refine G_seq ?_
    refine G_region ?_
    refine W_run 2 [(0, .slice p3 x1.length c4), (3, .slice p1852 r1850.1.length c1853), (4, .int .i64 r1850.2), (5, .int .i64 r5334.1), (6, .bool r5334.2), (54, .slice p1852 r1850.1.length c1853), (55, .int .i64 r1850.2)] w5335 (by kernel_rfl) ?_
    obtain ⟨r5430, hr5430, hm⟩ := gx_bind hm
    refine W_call 32 #[.slice p1852 r1850.1.length c1853, .int .i64 r1850.2] (by kernel_rfl) (by kernel_rfl) ?_
    refine (c_s_PlaceRegion w5335 r1850.1 p1852 c1853 (ho1855.rd M5337 0 (by kernel_rfl)) r1850.2 hr5430).mono ?_
    rintro e_ w5431 ⟨rfl, K5432⟩
    have M5433 := M5337.call0 K5432
    refine ⟨_, rfl, ?_⟩
    refine W_run 5 [(0, .slice p3 x1.length c4), (3, .slice p1852 r1850.1.length c1853), (4, .int .i64 r1850.2), (5, .int .i64 r5334.1), (6, .bool r5334.2), (7, .int .i64 r5430.1), (8, .bool r5430.2)] w5431 (by kernel_rfl) ?_
    refine W_nil ?_
    refine N_then ?_
    refine G_seq ?_
    obtain ⟨o5435, ho5436, hm5437⟩ := gx_bind hm
    refine G_meet (fun a w' => Mem [] w w' [sg1854] ∧ Sat Try.f11.ntmps [(0, .slice p3 x1.length c4), (3, .slice p1852 r1850.1.length c1853), (4, .int .i64 r1850.2), (5, .int .i64 r5334.1), (6, .bool r5334.2), (66, .bool o5435)] a) ?_ ?_
    · have hm := ho5436
      refine G_region ?_
      refine W_run 4 [(0, .slice p3 x1.length c4), (3, .slice p1852 r1850.1.length c1853), (4, .int .i64 r1850.2), (5, .int .i64 r5334.1), (6, .bool r5334.2), (8, .bool r5430.2), (62, .bool (r5334.1 != r5430.1))] w5431 (by kernel_rfl) ?_
      rcases gx_bif hm with ⟨hc5438, hm⟩ | ⟨hc5438, hm⟩
      · refine W_known 62 true (by kernel_rfl) hc5438 ?_
        refine W_run 4 [(0, .slice p3 x1.length c4), (3, .slice p1852 r1850.1.length c1853), (4, .int .i64 r1850.2), (5, .int .i64 r5334.1), (6, .bool r5334.2), (66, .bool true)] w5431 (by kernel_rfl) ?_
        refine W_nil ?_
        obtain rfl := Option.some.inj hm
        exact N_meet fun a ha => ⟨M5433.pick [0] (by kernel_rfl), ha.sub (by kernel_rfl)⟩
      · refine W_known 62 false (by kernel_rfl) hc5438 ?_
        refine W_run 4 [(0, .slice p3 x1.length c4), (3, .slice p1852 r1850.1.length c1853), (4, .int .i64 r1850.2), (5, .int .i64 r5334.1), (6, .bool r5334.2), (66, .bool (!(r5334.2 == r5430.2)))] w5431 (by kernel_rfl) ?_
        refine W_nil ?_
        obtain rfl := Option.some.inj hm
        exact N_meet fun a ha => ⟨M5433.pick [0] (by kernel_rfl), ha.sub (by kernel_rfl)⟩
    · intro a5441 w5439 ⟨M5440, hS5442⟩
      refine N_use hS5442 ?_
      have hm := hm5437
      refine N_then ?_
      rcases gx_bif hm with ⟨hc5443, hm⟩ | ⟨hc5443, hm⟩
      · refine G_cond_t (b := o5435) hc5443 (by kernel_rfl) ?_
        refine G_seq ?_
        refine G_region ?_
        refine W_run 1 [(2, .bool false)] w5439 (by kernel_rfl) ?_
        refine W_nil ?_
        refine N_then ?_
        refine G_ret ?_
        refine N_then_ret ?_
        obtain rfl := Option.some.inj hm
        refine N_ret [.bool false] (RVs_cons (RV_tmp (by kernel_rfl)) RVs_nil) ?_
        exact ⟨rfl, M5440.pick [] (by kernel_rfl)⟩
      · refine G_cond_f (b := o5435) hc5443 (by kernel_rfl) ?_
        refine G_skip ?_
        refine N_then ?_
        refine G_seq ?_
        refine G_seq ?_
        refine G_region ?_
        refine W_run 1 [(0, .slice p3 x1.length c4), (3, .slice p1852 r1850.1.length c1853), (4, .int .i64 r1850.2), (5, .int .i64 r5334.1), (67, .bool r5334.2)] w5439 (by kernel_rfl) ?_
        refine W_nil ?_
        refine N_then ?_
        obtain ⟨out5669, ho5667, hm5668⟩ := gx_bind hm
        refine G_meet (fun a w' => ∃ (o5666 : Unit), out5669 = .inl o5666 ∧ Mem [] w w' [] ∧ Sat Try.f11.ntmps [(0, .slice p3 x1.length c4)] a) ?_ ?_
        · have hm := ho5667
          rcases gx_bif hm with ⟨hc5670, hm⟩ | ⟨hc5670, hm⟩
          · refine G_cond_t (b := r5334.2) hc5670 (by kernel_rfl) ?_
            refine G_seq ?_
            refine G_region ?_
            refine W_run 4 [(0, .slice p3 x1.length c4), (3, .slice p1852 r1850.1.length c1853), (4, .int .i64 r1850.2), (5, .int .i64 r5334.1), (69, .slice p1852 r1850.1.length c1853), (72, .agg #[.int .i64 r5334.1, .int .i64 r1850.2, .int .i64 0, .int .i64 0])] w5439 (by kernel_rfl) ?_
            obtain ⟨r5671, hr5671, hm⟩ := gx_bind hm
            refine W_call 36 #[.slice p1852 r1850.1.length c1853, .agg #[.int .i64 r5334.1, .int .i64 r1850.2, .int .i64 0, .int .i64 0]] (by kernel_rfl) (by kernel_rfl) ?_
            refine (c_i_AddRegion w5439 r1850.1 p1852 c1853 (ho1855.rd M5440 0 (by kernel_rfl)) (⟨r5334.1, r1850.2, 0, 0⟩ : Region) hr5671).mono ?_
            rintro e_ w5677 ⟨p5673, c5674, sg5675, rfl, ho5676, K5678⟩
            have M5679 := M5440.call K5678
            refine ⟨_, rfl, ?_⟩
            refine W_run 5 [(0, .slice p3 x1.length c4), (3, .slice p1852 r1850.1.length c1853), (4, .int .i64 r1850.2), (5, .int .i64 r5334.1), (9, .slice p5673 r5671.1.length c5674), (10, .bool r5671.2)] w5677 (by kernel_rfl) ?_
            refine W_nil ?_
            refine N_then ?_
            refine G_seq ?_
            refine G_region ?_
            refine W_run 1 [(0, .slice p3 x1.length c4), (3, .slice p1852 r1850.1.length c1853), (4, .int .i64 r1850.2), (5, .int .i64 r5334.1), (9, .slice p5673 r5671.1.length c5674), (10, .bool r5671.2), (77, .slice p1852 r1850.1.length c1853)] w5677 (by kernel_rfl) ?_
            obtain ⟨r5680, hr5680, hm⟩ := gx_bind hm
            refine W_call 48 #[.slice p1852 r1850.1.length c1853] (by kernel_rfl) (by kernel_rfl) ?_
            refine (c_i_FreeSpace w5677 r1850.1 p1852 c1853 (ho1855.rd M5679 0 (by kernel_rfl)) hr5680).mono ?_
            rintro e_ w5681 ⟨rfl, K5682⟩
            have M5683 := M5679.call0 K5682
            refine ⟨_, rfl, ?_⟩
            refine W_run 5 [(0, .slice p3 x1.length c4), (3, .slice p1852 r1850.1.length c1853), (4, .int .i64 r1850.2), (5, .int .i64 r5334.1), (9, .slice p5673 r5671.1.length c5674), (10, .bool r5671.2), (11, .int .i64 r5680.1), (12, .bool r5680.2)] w5681 (by kernel_rfl) ?_
            refine W_nil ?_
            refine N_then ?_
            refine G_seq ?_
            refine G_region ?_
            refine W_run 1 [(0, .slice p3 x1.length c4), (3, .slice p1852 r1850.1.length c1853), (4, .int .i64 r1850.2), (5, .int .i64 r5334.1), (9, .slice p5673 r5671.1.length c5674), (10, .bool r5671.2), (11, .int .i64 r5680.1), (12, .bool r5680.2), (82, .slice p5673 r5671.1.length c5674)] w5681 (by kernel_rfl) ?_
            obtain ⟨r5684, hr5684, hm⟩ := gx_bind hm
            refine W_call 48 #[.slice p5673 r5671.1.length c5674] (by kernel_rfl) (by kernel_rfl) ?_
            refine (c_i_FreeSpace w5681 r5671.1 p5673 c5674 (ho5676.rd M5683 1 (by kernel_rfl)) hr5684).mono ?_
            rintro e_ w5685 ⟨rfl, K5686⟩
            have M5687 := M5683.call0 K5686
            refine ⟨_, rfl, ?_⟩
            refine W_run 5 [(0, .slice p3 x1.length c4), (3, .slice p1852 r1850.1.length c1853), (4, .int .i64 r1850.2), (5, .int .i64 r5334.1), (9, .slice p5673 r5671.1.length c5674), (10, .bool r5671.2), (11, .int .i64 r5680.1), (12, .bool r5680.2), (13, .int .i64 r5684.1), (14, .bool r5684.2)] w5685 (by kernel_rfl) ?_
            refine W_nil ?_
            refine N_then ?_
            refine G_seq ?_
            refine G_seq ?_
            obtain ⟨o5696, ho5697, hm5698⟩ := gx_bind hm
            refine G_meet (fun a w' => Mem [] w w' [sg1854] ∧ Sat Try.f11.ntmps [(0, .slice p3 x1.length c4), (3, .slice p1852 r1850.1.length c1853), (4, .int .i64 r1850.2), (5, .int .i64 r5334.1), (107, .bool o5696)] a) ?_ ?_
            · have hm := ho5697
              refine G_region ?_
              refine W_run 3 [(0, .slice p3 x1.length c4), (3, .slice p1852 r1850.1.length c1853), (4, .int .i64 r1850.2), (5, .int .i64 r5334.1), (9, .slice p5673 r5671.1.length c5674), (11, .int .i64 r5680.1), (12, .bool r5680.2), (13, .int .i64 r5684.1), (14, .bool r5684.2), (88, .bool (!r5671.2))] w5685 (by kernel_rfl) ?_
              rcases gx_bif hm with ⟨hc5699, hm⟩ | ⟨hc5699, hm⟩
              · refine W_known 88 true (by kernel_rfl) hc5699 ?_
                refine W_run 19 [(0, .slice p3 x1.length c4), (3, .slice p1852 r1850.1.length c1853), (4, .int .i64 r1850.2), (5, .int .i64 r5334.1), (107, .bool true)] w5685 (by kernel_rfl) ?_
                refine W_nil ?_
                obtain rfl := Option.some.inj hm
                exact N_meet fun a ha => ⟨M5687.pick [0] (by kernel_rfl), ha.sub (by kernel_rfl)⟩
              · refine W_known 88 false (by kernel_rfl) hc5699 ?_
                refine W_run 4 [(0, .slice p3 x1.length c4), (3, .slice p1852 r1850.1.length c1853), (4, .int .i64 r1850.2), (5, .int .i64 r5334.1), (9, .slice p5673 r5671.1.length c5674), (11, .int .i64 r5680.1), (13, .int .i64 r5684.1), (14, .bool r5684.2), (92, .bool (!r5680.2))] w5685 (by kernel_rfl) ?_
                rcases gx_bif hm with ⟨hc5700, hm⟩ | ⟨hc5700, hm⟩
                · refine W_known 92 true (by kernel_rfl) hc5700 ?_
                  refine W_run 15 [(0, .slice p3 x1.length c4), (3, .slice p1852 r1850.1.length c1853), (4, .int .i64 r1850.2), (5, .int .i64 r5334.1), (107, .bool true)] w5685 (by kernel_rfl) ?_
                  refine W_nil ?_
                  obtain rfl := Option.some.inj hm
                  exact N_meet fun a ha => ⟨M5687.pick [0] (by kernel_rfl), ha.sub (by kernel_rfl)⟩
                · refine W_known 92 false (by kernel_rfl) hc5700 ?_
                  refine W_run 4 [(0, .slice p3 x1.length c4), (3, .slice p1852 r1850.1.length c1853), (4, .int .i64 r1850.2), (5, .int .i64 r5334.1), (9, .slice p5673 r5671.1.length c5674), (11, .int .i64 r5680.1), (13, .int .i64 r5684.1), (96, .bool (!r5684.2))] w5685 (by kernel_rfl) ?_
                  rcases gx_bif hm with ⟨hc5701, hm⟩ | ⟨hc5701, hm⟩
                  · refine W_known 96 true (by kernel_rfl) hc5701 ?_
                    refine W_run 11 [(0, .slice p3 x1.length c4), (3, .slice p1852 r1850.1.length c1853), (4, .int .i64 r1850.2), (5, .int .i64 r5334.1), (107, .bool true)] w5685 (by kernel_rfl) ?_
                    refine W_nil ?_
                    obtain rfl := Option.some.inj hm
                    exact N_meet fun a ha => ⟨M5687.pick [0] (by kernel_rfl), ha.sub (by kernel_rfl)⟩
                  · refine W_known 96 false (by kernel_rfl) hc5701 ?_
                    refine W_run 7 [(0, .slice p3 x1.length c4), (3, .slice p1852 r1850.1.length c1853), (4, .int .i64 r1850.2), (5, .int .i64 r5334.1), (9, .slice p5673 r5671.1.length c5674), (103, .bool ((w64 (r5680.1 - r5684.1)) != r1850.2))] w5685 (by kernel_rfl) ?_
                    rcases gx_bif hm with ⟨hc5702, hm⟩ | ⟨hc5702, hm⟩
                    · refine W_known 103 true (by kernel_rfl) hc5702 ?_
                      refine W_run 4 [(0, .slice p3 x1.length c4), (3, .slice p1852 r1850.1.length c1853), (4, .int .i64 r1850.2), (5, .int .i64 r5334.1), (107, .bool true)] w5685 (by kernel_rfl) ?_
                      refine W_nil ?_
                      obtain rfl := Option.some.inj hm
                      exact N_meet fun a ha => ⟨M5687.pick [0] (by kernel_rfl), ha.sub (by kernel_rfl)⟩
                    · refine W_known 103 false (by kernel_rfl) hc5702 ?_
                      refine W_run 1 [(0, .slice p3 x1.length c4), (3, .slice p1852 r1850.1.length c1853), (4, .int .i64 r1850.2), (5, .int .i64 r5334.1), (103, .bool false), (104, .slice p5673 r5671.1.length c5674)] w5685 (by kernel_rfl) ?_
                      obtain ⟨r5703, hr5703, hm⟩ := gx_bind hm
                      refine W_call 49 #[.slice p5673 r5671.1.length c5674] (by kernel_rfl) (by kernel_rfl) ?_
                      refine (c_i_IsMap w5685 r5671.1 p5673 c5674 (ho5676.rd M5687 1 (by kernel_rfl)) hr5703).mono ?_
                      rintro e_ w5704 ⟨rfl, K5705⟩
                      have M5706 := M5687.call0 K5705
                      refine ⟨_, rfl, ?_⟩
                      refine W_run 2 [(0, .slice p3 x1.length c4), (3, .slice p1852 r1850.1.length c1853), (4, .int .i64 r1850.2), (5, .int .i64 r5334.1), (107, .bool (!r5703))] w5704 (by kernel_rfl) ?_
                      refine W_nil ?_
                      obtain rfl := Option.some.inj hm
                      exact N_meet fun a ha => ⟨M5706.pick [0] (by kernel_rfl), ha.sub (by kernel_rfl)⟩
            · intro a5709 w5707 ⟨M5708, hS5710⟩
              refine N_use hS5710 ?_
              have hm := hm5698
              refine N_then ?_
              rcases gx_bif hm with ⟨hc5711, hm⟩ | ⟨hc5711, hm⟩
              · refine G_cond_t (b := o5696) hc5711 (by kernel_rfl) ?_
                refine G_seq ?_
                refine G_region ?_
                refine W_run 1 [(2, .bool false)] w5707 (by kernel_rfl) ?_
                refine W_nil ?_
                refine N_then ?_
                refine G_ret ?_
                refine N_then_ret ?_
                refine N_meet_ret ?_
                obtain rfl := Option.some.inj hm
                have hm := hm5668
                simp only [Sum.elim_inr] at hm
                refine N_then_ret ?_
                obtain rfl := Option.some.inj hm
                refine N_ret [.bool false] (RVs_cons (RV_tmp (by kernel_rfl)) RVs_nil) ?_
                exact ⟨rfl, M5708.pick [] (by kernel_rfl)⟩
              · refine G_cond_f (b := o5696) hc5711 (by kernel_rfl) ?_
                refine G_skip ?_
                refine N_then ?_
                refine G_seq ?_
                refine G_region ?_
                refine W_run 1 [(0, .slice p3 x1.length c4), (3, .slice p1852 r1850.1.length c1853), (4, .int .i64 r1850.2), (5, .int .i64 r5334.1), (15, .int .i64 0)] w5707 (by kernel_rfl) ?_
                refine W_nil ?_
                refine N_then ?_
                obtain ⟨out5741, hw5742, hmo5743⟩ := gx_bind hm
                refine G_meet (fun a w' => ∃ (o5744 : Unit), out5741 = .inl o5744 ∧ Mem [] w w' [] ∧ Sat Try.f11.ntmps [(0, .slice p3 x1.length c4)] a) ?_ ?_
                · refine G_block ?_
                  refine G_while (σ := Int) (ρ := (Unit) ⊕ (Bool)) (fun s5734 a w' => Mem [] w w' [sg1854] ∧ Sat Try.f11.ntmps [(0, .slice p3 x1.length c4), (3, .slice p1852 r1850.1.length c1853), (4, .int .i64 r1850.2), (5, .int .i64 r5334.1), (15, .int .i64 s5734)] a) hw5742 (fun a ha => ⟨M5708.pick [0] (by kernel_rfl), ha.sub (by kernel_rfl)⟩) ?_
                  clear hm
                  intro s5734 x5735 hm hout5736 a5737 w5738 ⟨M5739, hS5740⟩
                  refine G_use hS5740 ?_
                  refine G_seq ?_
                  refine G_seq ?_
                  refine G_region ?_
                  refine W_run 3 [(0, .slice p3 x1.length c4), (3, .slice p1852 r1850.1.length c1853), (4, .int .i64 r1850.2), (5, .int .i64 r5334.1), (15, .int .i64 s5734), (110, .bool (decide (s5734 < r5334.1)))] w5738 (by kernel_rfl) ?_
                  refine W_nil ?_
                  refine N_then ?_
                  rcases gx_bif hm with ⟨hc5745, hm⟩ | ⟨hc5745, hm⟩
                  · refine G_cond_t (b := (decide (s5734 < r5334.1))) hc5745 (by kernel_rfl) ?_
                    refine G_skip ?_
                    refine N_then ?_
                    refine G_seq ?_
                    refine G_block ?_
                    refine G_seq ?_
                    refine G_region ?_
                    refine W_run 4 [(0, .slice p3 x1.length c4), (3, .slice p1852 r1850.1.length c1853), (4, .int .i64 r1850.2), (5, .int .i64 r5334.1), (15, .int .i64 s5734), (115, .slice p1852 r1850.1.length c1853), (118, .agg #[.int .i64 s5734, .int .i64 r1850.2, .int .i64 0, .int .i64 0])] w5738 (by kernel_rfl) ?_
                    obtain ⟨r5746, hr5746, hm⟩ := gx_bind hm
                    refine W_call 36 #[.slice p1852 r1850.1.length c1853, .agg #[.int .i64 s5734, .int .i64 r1850.2, .int .i64 0, .int .i64 0]] (by kernel_rfl) (by kernel_rfl) ?_
                    refine (c_i_AddRegion w5738 r1850.1 p1852 c1853 (ho1855.rd M5739 0 (by kernel_rfl)) (⟨s5734, r1850.2, 0, 0⟩ : Region) hr5746).mono ?_
                    rintro e_ w5752 ⟨p5748, c5749, sg5750, rfl, ho5751, K5753⟩
                    have M5754 := M5739.call K5753
                    refine ⟨_, rfl, ?_⟩
                    refine W_run 5 [(0, .slice p3 x1.length c4), (3, .slice p1852 r1850.1.length c1853), (4, .int .i64 r1850.2), (5, .int .i64 r5334.1), (15, .int .i64 s5734), (17, .bool r5746.2)] w5752 (by kernel_rfl) ?_
                    refine W_nil ?_
                    refine N_then ?_
                    refine G_seq ?_
                    refine G_region ?_
                    refine W_run 1 [(0, .slice p3 x1.length c4), (3, .slice p1852 r1850.1.length c1853), (4, .int .i64 r1850.2), (5, .int .i64 r5334.1), (15, .int .i64 s5734), (122, .bool r5746.2)] w5752 (by kernel_rfl) ?_
                    refine W_nil ?_
                    refine N_then ?_
                    rcases gx_bif hm with ⟨hc5755, hm⟩ | ⟨hc5755, hm⟩
                    · refine G_cond_t (b := r5746.2) hc5755 (by kernel_rfl) ?_
                      refine G_seq ?_
                      refine G_region ?_
                      refine W_run 1 [(2, .bool false)] w5752 (by kernel_rfl) ?_
                      refine W_nil ?_
                      refine N_then ?_
                      refine G_ret ?_
                      refine N_block_ret ?_
                      refine N_then_ret ?_
                      refine N_then_ret ?_
                      obtain rfl := Option.some.inj hm
                      obtain rfl := hout5736 _ rfl
                      have hm := hmo5743; simp only [Sum.elim_inr] at hm
                      refine N_block_ret ?_
                      refine N_meet_ret ?_
                      refine N_meet_ret ?_
                      obtain rfl := Option.some.inj hm
                      have hm := hm5668
                      simp only [Sum.elim_inr] at hm
                      refine N_then_ret ?_
                      obtain rfl := Option.some.inj hm
                      refine N_ret [.bool false] (RVs_cons (RV_tmp (by kernel_rfl)) RVs_nil) ?_
                      exact ⟨rfl, M5754.pick [] (by kernel_rfl)⟩
                    · refine G_cond_f (b := r5746.2) hc5755 (by kernel_rfl) ?_
                      refine G_skip ?_
                      refine N_block ?_
                      refine N_then ?_
                      refine G_region ?_
                      refine W_run 4 [(0, .slice p3 x1.length c4), (3, .slice p1852 r1850.1.length c1853), (4, .int .i64 r1850.2), (5, .int .i64 r5334.1), (15, .int .i64 (w64 (s5734 + r1850.2)))] w5752 (by kernel_rfl) ?_
                      refine W_nil ?_
                      obtain rfl := Option.some.inj hm
                      exact N_loop fun a ha => ⟨_, rfl, M5754.pick [0] (by kernel_rfl), ha.sub (by kernel_rfl)⟩
                  · refine G_cond_f (b := (decide (s5734 < r5334.1))) hc5745 (by kernel_rfl) ?_
                    refine G_exit ?_
                    refine N_then_exit ?_
                    refine N_then_exit ?_
                    refine N_block_eq ?_
                    obtain rfl := Option.some.inj hm
                    obtain rfl := hout5736 _ rfl
                    exact N_meet fun a ha => ⟨_, rfl, M5739.pick [] (by kernel_rfl), ha.sub (by kernel_rfl)⟩
                · intro a5756 w5757 ⟨o5744, hout_, M5758, hS5759⟩
                  refine N_use hS5759 ?_
                  subst hout_
                  have hm := hmo5743; simp only [Sum.elim_inl] at hm
                  obtain rfl := Option.some.inj hm
                  exact N_meet fun a ha => ⟨_, rfl, M5758.pick [] (by kernel_rfl), ha.sub (by kernel_rfl)⟩
          · refine G_cond_f (b := r5334.2) hc5670 (by kernel_rfl) ?_
            refine G_skip ?_
            obtain rfl := Option.some.inj hm
            exact N_meet fun a ha => ⟨_, rfl, M5440.pick [] (by kernel_rfl), ha.sub (by kernel_rfl)⟩
        · intro a5762 w5760 ⟨o5666, hout_, M5761, hS5763⟩
          refine N_use hS5763 ?_
          subst hout_
          have hm := hm5668
          simp only [Sum.elim_inl] at hm
          refine N_then ?_
          refine G_seq ?_
          refine G_region ?_
          refine W_run 1 [(0, .slice p3 x1.length c4), (124, .slice p3 x1.length c4)] w5760 (by kernel_rfl) ?_
          obtain ⟨r5798, hr5798, hm⟩ := gx_bind hm
          refine W_call 50 #[.slice p3 x1.length c4] (by kernel_rfl) (by kernel_rfl) ?_
          refine (c_s_DrawAddRegion w5760 x1 p3 c4 (h5.mem0 M5761) hr5798).mono ?_
          rintro e_ w5804 ⟨p5800, c5801, sg5802, rfl, ho5803, K5805⟩
          have M5806 := M5761.call K5805
          refine ⟨_, rfl, ?_⟩
          refine W_run 3 [(0, .slice p3 x1.length c4), (126, .slice p5800 r5798.1.length c5801), (127, .agg #[.int .i64 r5798.2.Base, .int .i64 r5798.2.Size, .int .i64 r5798.2.Kind, .int .i64 r5798.2.Unit])] w5804 (by kernel_rfl) ?_
          refine W_new (fun b => .pointer (some ⟨b, 0, none⟩)) (.cells ⟨[.int .i64 0, .int .i64 0, .int .i64 0, .int .i64 0]⟩ 59 (0, 0)) M5806 rfl (by kernel_rfl) (by kernel_rfl) ?_
          intro b5808 w5809 M5810
          refine W_run 1 [(0, .slice p3 x1.length c4), (18, .slice p5800 r5798.1.length c5801), (19, .pointer (some ⟨b5808, 0, none⟩)), (127, .agg #[.int .i64 r5798.2.Base, .int .i64 r5798.2.Size, .int .i64 r5798.2.Kind, .int .i64 r5798.2.Unit])] w5809 (by kernel_rfl) ?_
          refine W_store _ _ _ true 4 b5808 0 [.int .i64 0, .int .i64 0, .int .i64 0, .int .i64 0] 59 (.agg #[.int .i64 r5798.2.Base, .int .i64 r5798.2.Size, .int .i64 r5798.2.Kind, .int .i64 r5798.2.Unit]) 1 [.int .i64 r5798.2.Base, .int .i64 r5798.2.Size, .int .i64 r5798.2.Kind, .int .i64 r5798.2.Unit] M5810 (by kernel_rfl) rfl (by kernel_rfl) (by kernel_rfl) (by kernel_rfl) (by kernel_rfl) (by kernel_rfl) (by kernel_rfl) (by kernel_rfl) (by kernel_rfl) ?_
          intro w5811 M5812
          refine W_nil ?_
          refine N_then ?_
          refine G_seq ?_
          refine G_region ?_
          refine W_run 1 [(0, .slice p3 x1.length c4), (18, .slice p5800 r5798.1.length c5801), (19, .pointer (some ⟨b5808, 0, none⟩)), (129, .slice p5800 r5798.1.length c5801)] w5811 (by kernel_rfl) ?_
          refine W_val (.agg #[.int .i64 r5798.2.Base, .int .i64 r5798.2.Size, .int .i64 r5798.2.Kind, .int .i64 r5798.2.Unit]) w5811 (by kernel_rfl) (E_load (e := 59) (fr := (0, 0)) _ _ true 4 b5808 0 [.int .i64 r5798.2.Base, .int .i64 r5798.2.Size, .int .i64 r5798.2.Kind, .int .i64 r5798.2.Unit] (.agg #[.int .i64 r5798.2.Base, .int .i64 r5798.2.Size, .int .i64 r5798.2.Kind, .int .i64 r5798.2.Unit]) rfl (by kernel_rfl) (by kernel_rfl) (by kernel_rfl) (M5812.blk 1 (b := b5808) (o := .cells ⟨[.int .i64 r5798.2.Base, .int .i64 r5798.2.Size, .int .i64 r5798.2.Kind, .int .i64 r5798.2.Unit]⟩ 59 (0, 0)) (by kernel_rfl))) ?_
          obtain ⟨r5813, hr5813, hm⟩ := gx_bind hm
          refine W_call 36 #[.slice p5800 r5798.1.length c5801, .agg #[.int .i64 r5798.2.Base, .int .i64 r5798.2.Size, .int .i64 r5798.2.Kind, .int .i64 r5798.2.Unit]] (by kernel_rfl) (by kernel_rfl) ?_
          refine (c_i_AddRegion w5811 r5798.1 p5800 c5801 (ho5803.rd M5812 0 (by kernel_rfl)) r5798.2 hr5813).mono ?_
          rintro e_ w5819 ⟨p5815, c5816, sg5817, rfl, ho5818, K5820⟩
          have M5821 := M5812.call K5820
          refine ⟨_, rfl, ?_⟩
          refine W_run 5 [(0, .slice p3 x1.length c4), (18, .slice p5800 r5798.1.length c5801), (19, .pointer (some ⟨b5808, 0, none⟩)), (20, .slice p5815 r5813.1.length c5816), (21, .bool r5813.2)] w5819 (by kernel_rfl) ?_
          refine W_nil ?_
          refine N_then ?_
          refine G_seq ?_
          refine G_seq ?_
          refine G_region ?_
          refine W_run 1 [(0, .slice p3 x1.length c4), (19, .pointer (some ⟨b5808, 0, none⟩)), (20, .slice p5815 r5813.1.length c5816), (21, .bool r5813.2), (135, .slice p5800 r5798.1.length c5801)] w5819 (by kernel_rfl) ?_
          refine W_val (.agg #[.int .i64 r5798.2.Base, .int .i64 r5798.2.Size, .int .i64 r5798.2.Kind, .int .i64 r5798.2.Unit]) w5819 (by kernel_rfl) (E_load (e := 59) (fr := (0, 0)) _ _ true 4 b5808 0 [.int .i64 r5798.2.Base, .int .i64 r5798.2.Size, .int .i64 r5798.2.Kind, .int .i64 r5798.2.Unit] (.agg #[.int .i64 r5798.2.Base, .int .i64 r5798.2.Size, .int .i64 r5798.2.Kind, .int .i64 r5798.2.Unit]) rfl (by kernel_rfl) (by kernel_rfl) (by kernel_rfl) (M5821.blk 1 (b := b5808) (o := .cells ⟨[.int .i64 r5798.2.Base, .int .i64 r5798.2.Size, .int .i64 r5798.2.Kind, .int .i64 r5798.2.Unit]⟩ 59 (0, 0)) (by kernel_rfl))) ?_
          obtain ⟨r5822, hr5822, hm⟩ := gx_bind hm
          refine W_call 34 #[.slice p5800 r5798.1.length c5801, .agg #[.int .i64 r5798.2.Base, .int .i64 r5798.2.Size, .int .i64 r5798.2.Kind, .int .i64 r5798.2.Unit]] (by kernel_rfl) (by kernel_rfl) ?_
          refine (c_s_AddRegion w5819 r5798.1 p5800 c5801 (ho5803.rd M5821 0 (by kernel_rfl)) r5798.2 hr5822).mono ?_
          rintro e_ w5828 ⟨p5824, c5825, sg5826, rfl, ho5827, K5829⟩
          have M5830 := M5821.call K5829
          refine ⟨_, rfl, ?_⟩
          refine W_run 5 [(0, .slice p3 x1.length c4), (19, .pointer (some ⟨b5808, 0, none⟩)), (20, .slice p5815 r5813.1.length c5816), (21, .bool r5813.2), (22, .slice p5824 r5822.1.length c5825), (23, .bool r5822.2)] w5828 (by kernel_rfl) ?_
          refine W_nil ?_
          refine N_then ?_
          refine G_seq ?_
          obtain ⟨o5886, ho5887, hm5888⟩ := gx_bind hm
          refine G_meet (fun a w' => Mem [] w w' [] ∧ Sat Try.f11.ntmps [(0, .slice p3 x1.length c4), (156, .bool o5886)] a) ?_ ?_
          · have hm := ho5887
            refine G_region ?_
            refine W_run 4 [(0, .slice p3 x1.length c4), (19, .pointer (some ⟨b5808, 0, none⟩)), (20, .slice p5815 r5813.1.length c5816), (21, .bool r5813.2), (22, .slice p5824 r5822.1.length c5825), (143, .bool (!(r5813.2 == r5822.2)))] w5828 (by kernel_rfl) ?_
            rcases gx_bif hm with ⟨hc5889, hm⟩ | ⟨hc5889, hm⟩
            · refine W_known 143 true (by kernel_rfl) hc5889 ?_
              refine W_run 13 [(0, .slice p3 x1.length c4), (156, .bool true)] w5828 (by kernel_rfl) ?_
              refine W_nil ?_
              obtain rfl := Option.some.inj hm
              exact N_meet fun a ha => ⟨M5830.pick [] (by kernel_rfl), ha.sub (by kernel_rfl)⟩
            · refine W_known 143 false (by kernel_rfl) hc5889 ?_
              refine W_run 2 [(0, .slice p3 x1.length c4), (19, .pointer (some ⟨b5808, 0, none⟩)), (21, .bool r5813.2), (143, .bool false), (144, .slice p5815 r5813.1.length c5816), (145, .slice p5824 r5822.1.length c5825)] w5828 (by kernel_rfl) ?_
              obtain ⟨r5890, hr5890, hm⟩ := gx_bind hm
              refine W_call 51 #[.slice p5815 r5813.1.length c5816, .slice p5824 r5822.1.length c5825] (by kernel_rfl) (by kernel_rfl) ?_
              refine (c_l_rRegions w5828 r5813.1 p5815 c5816 (ho5818.rd M5830 2 (by kernel_rfl)) r5822.1 p5824 c5825 (ho5827.rd M5830 3 (by kernel_rfl)) hr5890).mono ?_
              rintro e_ w5891 ⟨rfl, K5892⟩
              have M5893 := M5830.call0 K5892
              refine ⟨_, rfl, ?_⟩
              refine W_run 3 [(0, .slice p3 x1.length c4), (19, .pointer (some ⟨b5808, 0, none⟩)), (21, .bool r5813.2), (149, .bool (!r5890))] w5891 (by kernel_rfl) ?_
              rcases gx_bif hm with ⟨hc5894, hm⟩ | ⟨hc5894, hm⟩
              · refine W_known 149 true (by kernel_rfl) hc5894 ?_
                refine W_run 7 [(0, .slice p3 x1.length c4), (156, .bool true)] w5891 (by kernel_rfl) ?_
                refine W_nil ?_
                obtain rfl := Option.some.inj hm
                exact N_meet fun a ha => ⟨M5893.pick [] (by kernel_rfl), ha.sub (by kernel_rfl)⟩
              · refine W_known 149 false (by kernel_rfl) hc5894 ?_
                refine W_run 2 [(0, .slice p3 x1.length c4), (19, .pointer (some ⟨b5808, 0, none⟩)), (149, .bool false), (151, .bool r5813.2)] w5891 (by kernel_rfl) ?_
                rcases gx_bif hm with ⟨hc5895, hm⟩ | ⟨hc5895, hm⟩
                · refine W_known 151 true (by kernel_rfl) hc5895 ?_
                  refine W_val (.agg #[.int .i64 r5798.2.Base, .int .i64 r5798.2.Size, .int .i64 r5798.2.Kind, .int .i64 r5798.2.Unit]) w5891 (by kernel_rfl) (E_load (e := 59) (fr := (0, 0)) _ _ true 4 b5808 0 [.int .i64 r5798.2.Base, .int .i64 r5798.2.Size, .int .i64 r5798.2.Kind, .int .i64 r5798.2.Unit] (.agg #[.int .i64 r5798.2.Base, .int .i64 r5798.2.Size, .int .i64 r5798.2.Kind, .int .i64 r5798.2.Unit]) rfl (by kernel_rfl) (by kernel_rfl) (by kernel_rfl) (M5893.blk 1 (b := b5808) (o := .cells ⟨[.int .i64 r5798.2.Base, .int .i64 r5798.2.Size, .int .i64 r5798.2.Kind, .int .i64 r5798.2.Unit]⟩ 59 (0, 0)) (by kernel_rfl))) ?_
                  obtain ⟨r5896, hr5896, hm⟩ := gx_bind hm
                  refine W_call 52 #[.agg #[.int .i64 r5798.2.Base, .int .i64 r5798.2.Size, .int .i64 r5798.2.Kind, .int .i64 r5798.2.Unit]] (by kernel_rfl) (by kernel_rfl) ?_
                  refine (c_i_IsRegion w5891 r5798.2 hr5896).mono ?_
                  rintro e_ w5897 ⟨rfl, K5898⟩
                  have M5899 := M5893.call0 K5898
                  refine ⟨_, rfl, ?_⟩
                  refine W_run 3 [(0, .slice p3 x1.length c4), (156, .bool (!r5896))] w5897 (by kernel_rfl) ?_
                  refine W_nil ?_
                  obtain rfl := Option.some.inj hm
                  exact N_meet fun a ha => ⟨M5899.pick [] (by kernel_rfl), ha.sub (by kernel_rfl)⟩
                · refine W_known 151 false (by kernel_rfl) hc5895 ?_
                  refine W_run 5 [(0, .slice p3 x1.length c4), (156, .bool false)] w5891 (by kernel_rfl) ?_
                  refine W_nil ?_
                  obtain rfl := Option.some.inj hm
                  exact N_meet fun a ha => ⟨M5893.pick [] (by kernel_rfl), ha.sub (by kernel_rfl)⟩
          · intro a5902 w5900 ⟨M5901, hS5903⟩
            refine N_use hS5903 ?_
            have hm := hm5888
            refine N_then ?_
            rcases gx_bif hm with ⟨hc5904, hm⟩ | ⟨hc5904, hm⟩
            · refine G_cond_t (b := o5886) hc5904 (by kernel_rfl) ?_
              refine G_seq ?_
              refine G_region ?_
              refine W_run 1 [(2, .bool false)] w5900 (by kernel_rfl) ?_
              refine W_nil ?_
              refine N_then ?_
              refine G_ret ?_
              refine N_then_ret ?_
              obtain rfl := Option.some.inj hm
              refine N_ret [.bool false] (RVs_cons (RV_tmp (by kernel_rfl)) RVs_nil) ?_
              exact ⟨rfl, M5901.pick [] (by kernel_rfl)⟩
            · refine G_cond_f (b := o5886) hc5904 (by kernel_rfl) ?_
              refine G_skip ?_
              refine N_then ?_
              refine G_seq ?_
              refine G_region ?_
              refine W_run 1 [(0, .slice p3 x1.length c4), (158, .slice p3 x1.length c4)] w5900 (by kernel_rfl) ?_
              obtain ⟨r5948, hr5948, hm⟩ := gx_bind hm
              refine W_call 53 #[.slice p3 x1.length c4] (by kernel_rfl) (by kernel_rfl) ?_
              refine (c_s_DrawMoveRegion w5900 x1 p3 c4 (h5.mem0 M5901) hr5948).mono ?_
              rintro e_ w5954 ⟨p5950, c5951, sg5952, rfl, ho5953, K5955⟩
              have M5956 := M5901.call K5955
              refine ⟨_, rfl, ?_⟩
              refine W_run 7 [(0, .slice p3 x1.length c4), (24, .slice p5950 r5948.1.length c5951), (25, .int .i64 r5948.2.1), (26, .int .i64 r5948.2.2)] w5954 (by kernel_rfl) ?_
              refine W_nil ?_
              refine N_then ?_
              refine G_seq ?_
              refine G_region ?_
              refine W_run 3 [(0, .slice p3 x1.length c4), (24, .slice p5950 r5948.1.length c5951), (25, .int .i64 r5948.2.1), (26, .int .i64 r5948.2.2), (164, .slice p5950 r5948.1.length c5951), (165, .int .i64 r5948.2.1), (166, .int .i64 r5948.2.2)] w5954 (by kernel_rfl) ?_
              obtain ⟨r6019, hr6019, hm⟩ := gx_bind hm
              refine W_call 39 #[.slice p5950 r5948.1.length c5951, .int .i64 r5948.2.1, .int .i64 r5948.2.2] (by kernel_rfl) (by kernel_rfl) ?_
              refine (c_i_MoveRegion w5954 r5948.1 p5950 c5951 (ho5953.rd M5956 0 (by kernel_rfl)) r5948.2.1 r5948.2.2 hr6019).mono ?_
              rintro e_ w6025 ⟨p6021, c6022, sg6023, rfl, ho6024, K6026⟩
              have M6027 := M5956.call K6026
              refine ⟨_, rfl, ?_⟩
              refine W_run 5 [(0, .slice p3 x1.length c4), (24, .slice p5950 r5948.1.length c5951), (25, .int .i64 r5948.2.1), (26, .int .i64 r5948.2.2), (27, .slice p6021 r6019.1.length c6022), (28, .bool r6019.2)] w6025 (by kernel_rfl) ?_
              refine W_nil ?_
              refine N_then ?_
              refine G_seq ?_
              refine G_seq ?_
              refine G_region ?_
              refine W_run 3 [(0, .slice p3 x1.length c4), (24, .slice p5950 r5948.1.length c5951), (25, .int .i64 r5948.2.1), (26, .int .i64 r5948.2.2), (27, .slice p6021 r6019.1.length c6022), (28, .bool r6019.2), (171, .slice p5950 r5948.1.length c5951), (172, .int .i64 r5948.2.1), (173, .int .i64 r5948.2.2)] w6025 (by kernel_rfl) ?_
              obtain ⟨r6173, hr6173, hm⟩ := gx_bind hm
              refine W_call 38 #[.slice p5950 r5948.1.length c5951, .int .i64 r5948.2.1, .int .i64 r5948.2.2] (by kernel_rfl) (by kernel_rfl) ?_
              refine (c_s_MoveRegion w6025 r5948.1 p5950 c5951 (ho5953.rd M6027 0 (by kernel_rfl)) r5948.2.1 r5948.2.2 hr6173).mono ?_
              rintro e_ w6179 ⟨p6175, c6176, sg6177, rfl, ho6178, K6180⟩
              have M6181 := M6027.call K6180
              refine ⟨_, rfl, ?_⟩
              refine W_run 5 [(0, .slice p3 x1.length c4), (24, .slice p5950 r5948.1.length c5951), (25, .int .i64 r5948.2.1), (26, .int .i64 r5948.2.2), (27, .slice p6021 r6019.1.length c6022), (28, .bool r6019.2), (29, .slice p6175 r6173.1.length c6176), (30, .bool r6173.2)] w6179 (by kernel_rfl) ?_
              refine W_nil ?_
              refine N_then ?_
              refine G_seq ?_
              obtain ⟨o6187, ho6188, hm6189⟩ := gx_bind hm
              refine G_meet (fun a w' => Mem [] w w' [sg5952, sg6023] ∧ Sat Try.f11.ntmps [(0, .slice p3 x1.length c4), (24, .slice p5950 r5948.1.length c5951), (25, .int .i64 r5948.2.1), (26, .int .i64 r5948.2.2), (27, .slice p6021 r6019.1.length c6022), (28, .bool r6019.2), (185, .bool o6187)] a) ?_ ?_
              · have hm := ho6188
                refine G_region ?_
                refine W_run 4 [(0, .slice p3 x1.length c4), (24, .slice p5950 r5948.1.length c5951), (25, .int .i64 r5948.2.1), (26, .int .i64 r5948.2.2), (27, .slice p6021 r6019.1.length c6022), (28, .bool r6019.2), (29, .slice p6175 r6173.1.length c6176), (180, .bool (!(r6019.2 == r6173.2)))] w6179 (by kernel_rfl) ?_
                rcases gx_bif hm with ⟨hc6190, hm⟩ | ⟨hc6190, hm⟩
                · refine W_known 180 true (by kernel_rfl) hc6190 ?_
                  refine W_run 5 [(0, .slice p3 x1.length c4), (24, .slice p5950 r5948.1.length c5951), (25, .int .i64 r5948.2.1), (26, .int .i64 r5948.2.2), (27, .slice p6021 r6019.1.length c6022), (28, .bool r6019.2), (185, .bool true)] w6179 (by kernel_rfl) ?_
                  refine W_nil ?_
                  obtain rfl := Option.some.inj hm
                  exact N_meet fun a ha => ⟨M6181.pick [0, 1] (by kernel_rfl), ha.sub (by kernel_rfl)⟩
                · refine W_known 180 false (by kernel_rfl) hc6190 ?_
                  refine W_run 2 [(0, .slice p3 x1.length c4), (24, .slice p5950 r5948.1.length c5951), (25, .int .i64 r5948.2.1), (26, .int .i64 r5948.2.2), (27, .slice p6021 r6019.1.length c6022), (28, .bool r6019.2), (180, .bool false), (181, .slice p6021 r6019.1.length c6022), (182, .slice p6175 r6173.1.length c6176)] w6179 (by kernel_rfl) ?_
                  obtain ⟨r6191, hr6191, hm⟩ := gx_bind hm
                  refine W_call 51 #[.slice p6021 r6019.1.length c6022, .slice p6175 r6173.1.length c6176] (by kernel_rfl) (by kernel_rfl) ?_
                  refine (c_l_rRegions w6179 r6019.1 p6021 c6022 (ho6024.rd M6181 1 (by kernel_rfl)) r6173.1 p6175 c6176 (ho6178.rd M6181 2 (by kernel_rfl)) hr6191).mono ?_
                  rintro e_ w6192 ⟨rfl, K6193⟩
                  have M6194 := M6181.call0 K6193
                  refine ⟨_, rfl, ?_⟩
                  refine W_run 2 [(0, .slice p3 x1.length c4), (24, .slice p5950 r5948.1.length c5951), (25, .int .i64 r5948.2.1), (26, .int .i64 r5948.2.2), (27, .slice p6021 r6019.1.length c6022), (28, .bool r6019.2), (185, .bool (!r6191))] w6192 (by kernel_rfl) ?_
                  refine W_nil ?_
                  obtain rfl := Option.some.inj hm
                  exact N_meet fun a ha => ⟨M6194.pick [0, 1] (by kernel_rfl), ha.sub (by kernel_rfl)⟩
              · intro a6197 w6195 ⟨M6196, hS6198⟩
                refine N_use hS6198 ?_
                have hm := hm6189
                refine N_then ?_
                rcases gx_bif hm with ⟨hc6199, hm⟩ | ⟨hc6199, hm⟩
                · refine G_cond_t (b := o6187) hc6199 (by kernel_rfl) ?_
                  refine G_seq ?_
                  refine G_region ?_
                  refine W_run 1 [(2, .bool false)] w6195 (by kernel_rfl) ?_
                  refine W_nil ?_
                  refine N_then ?_
                  refine G_ret ?_
                  refine N_then_ret ?_
                  obtain rfl := Option.some.inj hm
                  refine N_ret [.bool false] (RVs_cons (RV_tmp (by kernel_rfl)) RVs_nil) ?_
                  exact ⟨rfl, M6196.pick [] (by kernel_rfl)⟩
                · refine G_cond_f (b := o6187) hc6199 (by kernel_rfl) ?_
                  refine G_skip ?_
                  refine N_then ?_
                  refine G_seq ?_
                  refine G_seq ?_
                  refine G_region ?_
                  refine W_run 1 [(0, .slice p3 x1.length c4), (24, .slice p5950 r5948.1.length c5951), (25, .int .i64 r5948.2.1), (26, .int .i64 r5948.2.2), (27, .slice p6021 r6019.1.length c6022), (186, .bool r6019.2)] w6195 (by kernel_rfl) ?_
                  refine W_nil ?_
                  refine N_then ?_
                  obtain ⟨out6338, ho6336, hm6337⟩ := gx_bind hm
                  refine G_meet (fun a w' => ∃ (o6335 : Unit), out6338 = .inl o6335 ∧ Mem [] w w' [] ∧ Sat Try.f11.ntmps [(0, .slice p3 x1.length c4)] a) ?_ ?_
                  · have hm := ho6336
                    rcases gx_bif hm with ⟨hc6339, hm⟩ | ⟨hc6339, hm⟩
                    · refine G_cond_t (b := r6019.2) hc6339 (by kernel_rfl) ?_
                      refine G_seq ?_
                      refine G_region ?_
                      refine W_run 2 [(0, .slice p3 x1.length c4), (24, .slice p5950 r5948.1.length c5951), (25, .int .i64 r5948.2.1), (27, .slice p6021 r6019.1.length c6022), (188, .slice p6021 r6019.1.length c6022), (189, .int .i64 r5948.2.2)] w6195 (by kernel_rfl) ?_
                      obtain ⟨r6340, hr6340, hm⟩ := gx_bind hm
                      refine W_call 42 #[.slice p6021 r6019.1.length c6022, .int .i64 r5948.2.2] (by kernel_rfl) (by kernel_rfl) ?_
                      refine (c_i_FindRegion w6195 r6019.1 p6021 c6022 (ho6024.rd M6196 1 (by kernel_rfl)) r5948.2.2 hr6340).mono ?_
                      rintro e_ w6341 ⟨rfl, K6342⟩
                      have M6343 := M6196.call0 K6342
                      refine ⟨_, rfl, ?_⟩
                      refine W_run 5 [(0, .slice p3 x1.length c4), (24, .slice p5950 r5948.1.length c5951), (25, .int .i64 r5948.2.1), (27, .slice p6021 r6019.1.length c6022), (31, .int .i64 r6340.1), (32, .bool r6340.2)] w6341 (by kernel_rfl) ?_
                      refine W_nil ?_
                      refine N_then ?_
                      refine G_seq ?_
                      refine G_region ?_
                      refine W_run 4 [(0, .slice p3 x1.length c4), (24, .slice p5950 r5948.1.length c5951), (32, .bool r6340.2), (194, .slice p6021 r6019.1.length c6022), (195, .int .i64 r6340.1), (196, .slice p5950 r5948.1.length c5951), (197, .int .i64 r5948.2.1)] w6341 (by kernel_rfl) ?_
                      obtain ⟨y6344, hy6344, hm⟩ := gx_bind hm
                      refine W_val (elemP p5950 (r5948.2.1.toNat * 4)) w6341 (by kernel_rfl) (E_index (E := encRegion) _ _ _ r5948.1.length c5951 .i64 r5948.2.1 4 (y := y6344) rfl (by kernel_rfl) (by kernel_rfl) (by kernel_rfl) (ho5953.rd M6343 0 (by kernel_rfl)) rfl hy6344) ?_
                      refine W_val (elemP p5950 (r5948.2.1.toNat * 4 + 0)) w6341 (by kernel_rfl) (E_fieldE (E := encRegion) _ _ 0 (r5948.2.1.toNat * 4) 0 rfl (by kernel_rfl) (by kernel_rfl) (ho5953.rd M6343 0 (by kernel_rfl)) hy6344) ?_
                      refine W_val (.int .i64 y6344.Base) w6341 (by kernel_rfl) (E_loadE (E := encRegion) _ _ false 1 r5948.2.1 0 (r5948.2.1.toNat * 4 + 0) y6344 (.int .i64 y6344.Base) rfl (by kernel_rfl) (by kernel_rfl) (by kernel_rfl) (ho5953.rd M6343 0 (by kernel_rfl)) hy6344 rfl) ?_
                      obtain ⟨r6345, hr6345, hm⟩ := gx_bind hm
                      refine W_call 39 #[.slice p6021 r6019.1.length c6022, .int .i64 r6340.1, .int .i64 y6344.Base] (by kernel_rfl) (by kernel_rfl) ?_
                      refine (c_i_MoveRegion w6341 r6019.1 p6021 c6022 (ho6024.rd M6343 1 (by kernel_rfl)) r6340.1 y6344.Base hr6345).mono ?_
                      rintro e_ w6351 ⟨p6347, c6348, sg6349, rfl, ho6350, K6352⟩
                      have M6353 := M6343.call K6352
                      refine ⟨_, rfl, ?_⟩
                      refine W_run 5 [(0, .slice p3 x1.length c4), (24, .slice p5950 r5948.1.length c5951), (32, .bool r6340.2), (33, .slice p6347 r6345.1.length c6348), (34, .bool r6345.2)] w6351 (by kernel_rfl) ?_
                      refine W_nil ?_
                      refine N_then ?_
                      refine G_seq ?_
                      obtain ⟨o6360, ho6361, hm6362⟩ := gx_bind hm
                      refine G_meet (fun a w' => Mem [] w w' [] ∧ Sat Try.f11.ntmps [(0, .slice p3 x1.length c4), (215, .bool o6360)] a) ?_ ?_
                      · have hm := ho6361
                        refine G_region ?_
                        refine W_run 3 [(0, .slice p3 x1.length c4), (24, .slice p5950 r5948.1.length c5951), (33, .slice p6347 r6345.1.length c6348), (34, .bool r6345.2), (206, .bool (!r6340.2))] w6351 (by kernel_rfl) ?_
                        rcases gx_bif hm with ⟨hc6363, hm⟩ | ⟨hc6363, hm⟩
                        · refine W_known 206 true (by kernel_rfl) hc6363 ?_
                          refine W_run 9 [(0, .slice p3 x1.length c4), (215, .bool true)] w6351 (by kernel_rfl) ?_
                          refine W_nil ?_
                          obtain rfl := Option.some.inj hm
                          exact N_meet fun a ha => ⟨M6353.pick [] (by kernel_rfl), ha.sub (by kernel_rfl)⟩
                        · refine W_known 206 false (by kernel_rfl) hc6363 ?_
                          refine W_run 4 [(0, .slice p3 x1.length c4), (24, .slice p5950 r5948.1.length c5951), (33, .slice p6347 r6345.1.length c6348), (210, .bool (!r6345.2))] w6351 (by kernel_rfl) ?_
                          rcases gx_bif hm with ⟨hc6364, hm⟩ | ⟨hc6364, hm⟩
                          · refine W_known 210 true (by kernel_rfl) hc6364 ?_
                            refine W_run 5 [(0, .slice p3 x1.length c4), (215, .bool true)] w6351 (by kernel_rfl) ?_
                            refine W_nil ?_
                            obtain rfl := Option.some.inj hm
                            exact N_meet fun a ha => ⟨M6353.pick [] (by kernel_rfl), ha.sub (by kernel_rfl)⟩
                          · refine W_known 210 false (by kernel_rfl) hc6364 ?_
                            refine W_run 2 [(0, .slice p3 x1.length c4), (210, .bool false), (211, .slice p6347 r6345.1.length c6348), (212, .slice p5950 r5948.1.length c5951)] w6351 (by kernel_rfl) ?_
                            obtain ⟨r6365, hr6365, hm⟩ := gx_bind hm
                            refine W_call 51 #[.slice p6347 r6345.1.length c6348, .slice p5950 r5948.1.length c5951] (by kernel_rfl) (by kernel_rfl) ?_
                            refine (c_l_rRegions w6351 r6345.1 p6347 c6348 (ho6350.rd M6353 2 (by kernel_rfl)) r5948.1 p5950 c5951 (ho5953.rd M6353 0 (by kernel_rfl)) hr6365).mono ?_
                            rintro e_ w6366 ⟨rfl, K6367⟩
                            have M6368 := M6353.call0 K6367
                            refine ⟨_, rfl, ?_⟩
                            refine W_run 2 [(0, .slice p3 x1.length c4), (215, .bool (!r6365))] w6366 (by kernel_rfl) ?_
                            refine W_nil ?_
                            obtain rfl := Option.some.inj hm
                            exact N_meet fun a ha => ⟨M6368.pick [] (by kernel_rfl), ha.sub (by kernel_rfl)⟩
                      · intro a6371 w6369 ⟨M6370, hS6372⟩
                        refine N_use hS6372 ?_
                        have hm := hm6362
                        refine N_then ?_
                        rcases gx_bif hm with ⟨hc6373, hm⟩ | ⟨hc6373, hm⟩
                        · refine G_cond_t (b := o6360) hc6373 (by kernel_rfl) ?_
                          refine G_seq ?_
                          refine G_region ?_
                          refine W_run 1 [(2, .bool false)] w6369 (by kernel_rfl) ?_
                          refine W_nil ?_
                          refine N_then ?_
                          refine G_ret ?_
                          refine N_meet_ret ?_
                          obtain rfl := Option.some.inj hm
                          have hm := hm6337
                          simp only [Sum.elim_inr] at hm
                          refine N_then_ret ?_
                          obtain rfl := Option.some.inj hm
                          refine N_ret [.bool false] (RVs_cons (RV_tmp (by kernel_rfl)) RVs_nil) ?_
                          exact ⟨rfl, M6370.pick [] (by kernel_rfl)⟩
                        · refine G_cond_f (b := o6360) hc6373 (by kernel_rfl) ?_
                          refine G_skip ?_
                          obtain rfl := Option.some.inj hm
                          exact N_meet fun a ha => ⟨_, rfl, M6370.pick [] (by kernel_rfl), ha.sub (by kernel_rfl)⟩
                    · refine G_cond_f (b := r6019.2) hc6339 (by kernel_rfl) ?_
                      refine G_skip ?_
                      obtain rfl := Option.some.inj hm
                      exact N_meet fun a ha => ⟨_, rfl, M6196.pick [] (by kernel_rfl), ha.sub (by kernel_rfl)⟩
                  · intro a6376 w6374 ⟨o6335, hout_, M6375, hS6377⟩
                    refine N_use hS6377 ?_
                    subst hout_
                    have hm := hm6337
                    simp only [Sum.elim_inl] at hm
                    refine N_then ?_
                    refine G_seq ?_
                    refine G_region ?_
                    refine W_run 1 [(216, .slice p3 x1.length c4)] w6374 (by kernel_rfl) ?_
                    obtain ⟨r6421, hr6421, hm⟩ := gx_bind hm
                    refine W_call 54 #[.slice p3 x1.length c4] (by kernel_rfl) (by kernel_rfl) ?_
                    refine (c_s_DrawFreeSpace w6374 x1 p3 c4 (h5.mem0 M6375) hr6421).mono ?_
                    rintro e_ w6427 ⟨p6423, c6424, sg6425, rfl, ho6426, K6428⟩
                    have M6429 := M6375.call K6428
                    refine ⟨_, rfl, ?_⟩
                    refine W_run 1 [(35, .slice p6423 r6421.length c6424)] w6427 (by kernel_rfl) ?_
                    refine W_nil ?_
                    refine N_then ?_
                    refine G_seq ?_
                    refine G_region ?_
                    refine W_run 1 [(35, .slice p6423 r6421.length c6424), (219, .slice p6423 r6421.length c6424)] w6427 (by kernel_rfl) ?_
                    obtain ⟨r6430, hr6430, hm⟩ := gx_bind hm
                    refine W_call 48 #[.slice p6423 r6421.length c6424] (by kernel_rfl) (by kernel_rfl) ?_
                    refine (c_i_FreeSpace w6427 r6421 p6423 c6424 (ho6426.rd M6429 0 (by kernel_rfl)) hr6430).mono ?_
                    rintro e_ w6431 ⟨rfl, K6432⟩
                    have M6433 := M6429.call0 K6432
                    refine ⟨_, rfl, ?_⟩
                    refine W_run 5 [(35, .slice p6423 r6421.length c6424), (36, .int .i64 r6430.1), (37, .bool r6430.2)] w6431 (by kernel_rfl) ?_
                    refine W_nil ?_
                    refine N_then ?_
                    refine G_seq ?_
                    refine G_region ?_
                    refine W_run 1 [(36, .int .i64 r6430.1), (37, .bool r6430.2), (224, .slice p6423 r6421.length c6424)] w6431 (by kernel_rfl) ?_
                    obtain ⟨r6465, hr6465, hm⟩ := gx_bind hm
                    refine W_call 55 #[.slice p6423 r6421.length c6424] (by kernel_rfl) (by kernel_rfl) ?_
                    refine (c_s_FreeSpace w6431 r6421 p6423 c6424 (ho6426.rd M6433 0 (by kernel_rfl)) hr6465).mono ?_
                    rintro e_ w6466 ⟨rfl, K6467⟩
                    have M6468 := M6433.call0 K6467
                    refine ⟨_, rfl, ?_⟩
                    refine W_run 5 [(36, .int .i64 r6430.1), (37, .bool r6430.2), (38, .int .i64 r6465.1), (39, .bool r6465.2)] w6466 (by kernel_rfl) ?_
                    refine W_nil ?_
                    refine N_then ?_
                    refine G_seq ?_
                    obtain ⟨o6470, ho6471, hm6472⟩ := gx_bind hm
                    refine G_meet (fun a w' => Mem [] w w' [] ∧ Sat Try.f11.ntmps [(2, .bool o6470)] a) ?_ ?_
                    · have hm := ho6471
                      refine G_region ?_
                      refine W_run 4 [(37, .bool r6430.2), (39, .bool r6465.2), (231, .bool (r6430.1 == r6465.1))] w6466 (by kernel_rfl) ?_
                      rcases gx_bif hm with ⟨hc6473, hm⟩ | ⟨hc6473, hm⟩
                      · refine W_known 231 true (by kernel_rfl) hc6473 ?_
                        refine W_run 5 [(2, .bool (r6430.2 == r6465.2))] w6466 (by kernel_rfl) ?_
                        refine W_nil ?_
                        obtain rfl := Option.some.inj hm
                        exact N_meet fun a ha => ⟨M6468.pick [] (by kernel_rfl), ha.sub (by kernel_rfl)⟩
                      · refine W_known 231 false (by kernel_rfl) hc6473 ?_
                        refine W_run 5 [(2, .bool false)] w6466 (by kernel_rfl) ?_
                        refine W_nil ?_
                        obtain rfl := Option.some.inj hm
                        exact N_meet fun a ha => ⟨M6468.pick [] (by kernel_rfl), ha.sub (by kernel_rfl)⟩
                    · intro a6476 w6474 ⟨M6475, hS6477⟩
                      refine N_use hS6477 ?_
                      have hm := hm6472
                      refine N_then ?_
                      refine G_ret ?_
                      obtain rfl := Option.some.inj hm
                      refine N_ret [.bool o6470] (RVs_cons (RV_tmp (by kernel_rfl)) RVs_nil) ?_
                      exact ⟨rfl, M6475.pick [] (by kernel_rfl)⟩
end Go.Proofs.Ytphinfkojhecdaa
