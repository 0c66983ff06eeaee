/- The walks, printed by program: whenever the model gives r, the call returns r. Part 5. -/
import Derived.Test.YtlfligjpmodefaaM
import Derived.Test.YtlfligjpmodefaaProg
import Derived.Test.YtlfligjpmodefaaSh
import Derived.Test.YtlfligjpmodefaaC4
set_option linter.unusedVariables false
set_option maxRecDepth 100000
set_option maxHeartbeats 4000000
namespace Go.Proofs.Ytlfligjpmodefaa
open Go.Gx
theorem c_l_FnExactInflate (w : World) (x9182 : List Int) (p9184 : Option Addr) (c9185 : Nat) (h9186 : rdS Gx.encI w x9182 p9184 c9185) (x9187 : List Balloon) (p9189 : Option Addr) (c9190 : Nat) (h9191 : rdD deepBalloon w x9187 p9189 c9190) (x9192 : Int) {r : Bool} (hm : M.l_FnExactInflate x9182 x9187 x9192 = some r) :
    Calls Try.prog 9 #[.slice p9184 x9182.length c9185, .slice p9189 x9187.length c9190, .int .i64 x9192] w fun e w' => e = .returned (.bool r) ∧ Mem [] w w' [] := by
  unfold M.l_FnExactInflate at hm
  refine C_enter Try.func9 rfl (by kernel_rfl) ?_
  have M0 := Mem.refl [] w
  refine G_seq ?_
  refine G_region ?_
  refine W_run 1 [(0, .slice p9184 x9182.length c9185), (1, .slice p9189 x9187.length c9190), (2, .int .i64 x9192)] w (by kernel_rfl) ?_
  refine W_nil ?_
  refine N_then ?_
  refine G_seq ?_
  refine G_seq ?_
  refine G_region ?_
  refine W_run 3 [(0, .slice p9184 x9182.length c9185), (1, .slice p9189 x9187.length c9190), (2, .int .i64 x9192), (24, .bool (decide ((x9182.length : Int) > 1048576)))] w (by kernel_rfl) ?_
  refine W_nil ?_
  refine N_then ?_
  rcases gx_bif hm with ⟨hc9193, hm⟩ | ⟨hc9193, hm⟩
  · refine G_cond_t (b := (decide ((x9182.length : Int) > 1048576))) hc9193 (by kernel_rfl) ?_
    refine G_seq ?_
    refine G_region ?_
    refine W_run 1 [(6, .bool true)] w (by kernel_rfl) ?_
    refine W_nil ?_
    refine N_then ?_
    refine G_ret ?_
    refine N_then_ret ?_
    obtain rfl := Option.some.inj hm
    refine N_ret [.bool true] (RVs_cons (RV_tmp (by kernel_rfl)) RVs_nil) ?_
    exact ⟨rfl, M0.pick [] (by kernel_rfl)⟩
  refine G_cond_f (b := (decide ((x9182.length : Int) > 1048576))) hc9193 (by kernel_rfl) ?_
  refine G_skip ?_
  refine N_then ?_
  refine G_seq ?_
  refine G_region ?_
  refine W_run 1 [(0, .slice p9184 x9182.length c9185), (1, .slice p9189 x9187.length c9190), (2, .int .i64 x9192), (7, .int .i64 1048576)] w (by kernel_rfl) ?_
  refine W_nil ?_
  refine N_then ?_
  refine G_seq ?_
  refine G_region ?_
  refine W_run 2 [(0, .slice p9184 x9182.length c9185), (1, .slice p9189 x9187.length c9190), (2, .int .i64 x9192), (7, .int .i64 1048576), (25, .slice p9189 x9187.length c9190), (26, .int .i64 1048576)] w (by kernel_rfl) ?_
  obtain ⟨r9194, hr9194, hm⟩ := gx_bind hm
  refine W_call 13 #[.slice p9189 x9187.length c9190, .int .i64 1048576] (by kernel_rfl) (by kernel_rfl) ?_
  refine (c_l_szBalloonS w x9187 p9189 c9190 (h9191.mem0 M0) 1048576 hr9194).mono ?_
  rintro e_ w9195 ⟨rfl, K9196⟩
  have M9197 := M0.call0 K9196
  refine ⟨_, rfl, ?_⟩
  refine W_run 1 [(0, .slice p9184 x9182.length c9185), (1, .slice p9189 x9187.length c9190), (2, .int .i64 x9192), (7, .int .i64 r9194)] w9195 (by kernel_rfl) ?_
  refine W_nil ?_
  refine N_then ?_
  refine G_seq ?_
  refine G_seq ?_
  refine G_region ?_
  refine W_run 2 [(0, .slice p9184 x9182.length c9185), (1, .slice p9189 x9187.length c9190), (2, .int .i64 x9192), (29, .bool (decide (r9194 < 0)))] w9195 (by kernel_rfl) ?_
  refine W_nil ?_
  refine N_then ?_
  rcases gx_bif hm with ⟨hc9198, hm⟩ | ⟨hc9198, hm⟩
  · refine G_cond_t (b := (decide (r9194 < 0))) hc9198 (by kernel_rfl) ?_
    refine G_seq ?_
    refine G_region ?_
    refine W_run 1 [(6, .bool true)] w9195 (by kernel_rfl) ?_
    refine W_nil ?_
    refine N_then ?_
    refine G_ret ?_
    refine N_then_ret ?_
    obtain rfl := Option.some.inj hm
    refine N_ret [.bool true] (RVs_cons (RV_tmp (by kernel_rfl)) RVs_nil) ?_
    exact ⟨rfl, M9197.pick [] (by kernel_rfl)⟩
  refine G_cond_f (b := (decide (r9194 < 0))) hc9198 (by kernel_rfl) ?_
  refine G_skip ?_
  refine N_then ?_
  refine G_seq ?_
  refine G_region ?_
  refine W_run 1 [(0, .slice p9184 x9182.length c9185), (1, .slice p9189 x9187.length c9190), (2, .int .i64 x9192), (31, .slice p9184 x9182.length c9185)] w9195 (by kernel_rfl) ?_
  obtain ⟨r9199, hr9199, hm⟩ := gx_bind hm
  refine W_call 15 #[.slice p9184 x9182.length c9185] (by kernel_rfl) (by kernel_rfl) ?_
  refine (c_l_toIntS w9195 x9182 p9184 c9185 (h9186.mem0 M9197) hr9199).mono ?_
  rintro e_ w9205 ⟨p9201, c9202, sg9203, rfl, ho9204, K9206⟩
  have M9207 := M9197.call K9206
  refine ⟨_, rfl, ?_⟩
  refine W_run 1 [(0, .slice p9184 x9182.length c9185), (1, .slice p9189 x9187.length c9190), (2, .int .i64 x9192), (32, .slice p9201 r9199.length c9202), (33, .slice p9189 x9187.length c9190)] w9205 (by kernel_rfl) ?_
  obtain ⟨r9208, hr9208, hm⟩ := gx_bind hm
  refine W_call 16 #[.slice p9189 x9187.length c9190] (by kernel_rfl) (by kernel_rfl) ?_
  refine (c_l_toBalloonS w9205 x9187 p9189 c9190 (h9191.mem0 M9207) hr9208).mono ?_
  rintro e_ w9215 ⟨p9210, c9211, sg9212, sg9213, rfl, ho9214, K9216⟩
  have M9217 := M9207.call K9216
  refine ⟨_, rfl, ?_⟩
  refine W_run 1 [(0, .slice p9184 x9182.length c9185), (1, .slice p9189 x9187.length c9190), (2, .int .i64 x9192), (32, .slice p9201 r9199.length c9202), (34, .slice p9210 r9208.length c9211), (35, .int .i64 x9192)] w9215 (by kernel_rfl) ?_
  obtain ⟨r9319, hr9319, hm⟩ := gx_bind hm
  refine W_call 34 #[.slice p9201 r9199.length c9202, .slice p9210 r9208.length c9211, .int .i64 x9192] (by kernel_rfl) (by kernel_rfl) ?_
  refine (c_s_Inflate w9215 r9199 p9201 c9202 (ho9204.rd M9217 0 (by kernel_rfl)) r9208 p9210 c9211 (ho9214.rd M9217 1 (by kernel_rfl) 2 (by kernel_rfl)) x9192 hr9319).mono ?_
  rintro e_ w9331 ⟨p9321, c9322, sg9323, p9326, c9327, sg9328, sg9329, rfl, ho9324, ho9330, K9332⟩
  have M9333 := M9217.call K9332
  refine ⟨_, rfl, ?_⟩
  refine W_run 7 [(0, .slice p9184 x9182.length c9185), (1, .slice p9189 x9187.length c9190), (2, .int .i64 x9192), (8, .slice p9321 r9319.1.length c9322), (9, .slice p9326 r9319.2.1.length c9327), (10, .bool r9319.2.2)] w9331 (by kernel_rfl) ?_
  refine W_nil ?_
  refine N_then ?_
  refine G_seq ?_
  refine G_region ?_
  refine W_run 1 [(0, .slice p9184 x9182.length c9185), (1, .slice p9189 x9187.length c9190), (2, .int .i64 x9192), (8, .slice p9321 r9319.1.length c9322), (9, .slice p9326 r9319.2.1.length c9327), (10, .bool r9319.2.2), (40, .slice p9184 x9182.length c9185)] w9331 (by kernel_rfl) ?_
  obtain ⟨r9334, hr9334, hm⟩ := gx_bind hm
  refine W_call 15 #[.slice p9184 x9182.length c9185] (by kernel_rfl) (by kernel_rfl) ?_
  refine (c_l_toIntS w9331 x9182 p9184 c9185 (h9186.mem0 M9333) hr9334).mono ?_
  rintro e_ w9340 ⟨p9336, c9337, sg9338, rfl, ho9339, K9341⟩
  have M9342 := M9333.call K9341
  refine ⟨_, rfl, ?_⟩
  refine W_run 1 [(0, .slice p9184 x9182.length c9185), (1, .slice p9189 x9187.length c9190), (2, .int .i64 x9192), (8, .slice p9321 r9319.1.length c9322), (9, .slice p9326 r9319.2.1.length c9327), (10, .bool r9319.2.2), (11, .slice p9336 r9334.length c9337)] w9340 (by kernel_rfl) ?_
  refine W_nil ?_
  refine N_then ?_
  refine G_seq ?_
  refine G_region ?_
  refine W_run 1 [(0, .slice p9184 x9182.length c9185), (1, .slice p9189 x9187.length c9190), (2, .int .i64 x9192), (8, .slice p9321 r9319.1.length c9322), (9, .slice p9326 r9319.2.1.length c9327), (10, .bool r9319.2.2), (11, .slice p9336 r9334.length c9337), (42, .slice p9189 x9187.length c9190)] w9340 (by kernel_rfl) ?_
  obtain ⟨r9343, hr9343, hm⟩ := gx_bind hm
  refine W_call 16 #[.slice p9189 x9187.length c9190] (by kernel_rfl) (by kernel_rfl) ?_
  refine (c_l_toBalloonS w9340 x9187 p9189 c9190 (h9191.mem0 M9342) hr9343).mono ?_
  rintro e_ w9350 ⟨p9345, c9346, sg9347, sg9348, rfl, ho9349, K9351⟩
  have M9352 := M9342.call K9351
  refine ⟨_, rfl, ?_⟩
  refine W_run 1 [(0, .slice p9184 x9182.length c9185), (1, .slice p9189 x9187.length c9190), (2, .int .i64 x9192), (8, .slice p9321 r9319.1.length c9322), (9, .slice p9326 r9319.2.1.length c9327), (10, .bool r9319.2.2), (11, .slice p9336 r9334.length c9337), (12, .slice p9345 r9343.length c9346)] w9350 (by kernel_rfl) ?_
  refine W_nil ?_
  refine N_then ?_
  refine G_seq ?_
  refine G_region ?_
  refine W_run 3 [(0, .slice p9184 x9182.length c9185), (1, .slice p9189 x9187.length c9190), (2, .int .i64 x9192), (8, .slice p9321 r9319.1.length c9322), (9, .slice p9326 r9319.2.1.length c9327), (10, .bool r9319.2.2), (11, .slice p9336 r9334.length c9337), (12, .slice p9345 r9343.length c9346), (45, .slice p9336 r9334.length c9337), (46, .slice p9345 r9343.length c9346), (47, .int .i64 x9192)] w9350 (by kernel_rfl) ?_
  obtain ⟨r9625, hr9625, hm⟩ := gx_bind hm
  refine W_call 35 #[.slice p9336 r9334.length c9337, .slice p9345 r9343.length c9346, .int .i64 x9192] (by kernel_rfl) (by kernel_rfl) ?_
  refine (c_i_Inflate w9350 r9334 p9336 c9337 (ho9339.rd M9352 6 (by kernel_rfl)) r9343 p9345 c9346 (ho9349.rd M9352 7 (by kernel_rfl) 8 (by kernel_rfl)) x9192 hr9625).mono ?_
  rintro e_ w9637 ⟨p9627, c9628, sg9629, p9632, c9633, sg9634, sg9635, rfl, ho9630, ho9636, K9638⟩
  have M9639 := M9352.call K9638
  refine ⟨_, rfl, ?_⟩
  refine W_run 7 [(0, .slice p9184 x9182.length c9185), (1, .slice p9189 x9187.length c9190), (2, .int .i64 x9192), (8, .slice p9321 r9319.1.length c9322), (9, .slice p9326 r9319.2.1.length c9327), (10, .bool r9319.2.2), (11, .slice p9336 r9334.length c9337), (12, .slice p9345 r9343.length c9346), (13, .slice p9627 r9625.1.length c9628), (14, .slice p9632 r9625.2.1.length c9633), (15, .bool r9625.2.2)] w9637 (by kernel_rfl) ?_
  refine W_nil ?_
  refine N_then ?_
  refine G_seq ?_
  refine G_seq ?_
  obtain ⟨o9650, ho9651, hm9652⟩ := gx_bind hm
  refine G_meet (fun a w' => Mem [] w w' [sg9323, sg9328, sg9329, sg9338, sg9347, sg9348, sg9629, sg9634, sg9635] ∧ Sat Try.f9.ntmps [(0, .slice p9184 x9182.length c9185), (1, .slice p9189 x9187.length c9190), (2, .int .i64 x9192), (8, .slice p9321 r9319.1.length c9322), (9, .slice p9326 r9319.2.1.length c9327), (10, .bool r9319.2.2), (11, .slice p9336 r9334.length c9337), (12, .slice p9345 r9343.length c9346), (13, .slice p9627 r9625.1.length c9628), (14, .slice p9632 r9625.2.1.length c9633), (15, .bool r9625.2.2), (66, .bool o9650)] a) ?_ ?_
  · have hm := ho9651
    refine G_region ?_
    refine W_run 2 [(0, .slice p9184 x9182.length c9185), (1, .slice p9189 x9187.length c9190), (2, .int .i64 x9192), (8, .slice p9321 r9319.1.length c9322), (9, .slice p9326 r9319.2.1.length c9327), (10, .bool r9319.2.2), (11, .slice p9336 r9334.length c9337), (12, .slice p9345 r9343.length c9346), (13, .slice p9627 r9625.1.length c9628), (14, .slice p9632 r9625.2.1.length c9633), (15, .bool r9625.2.2), (52, .slice p9627 r9625.1.length c9628), (53, .slice p9321 r9319.1.length c9322)] w9637 (by kernel_rfl) ?_
    obtain ⟨r9653, hr9653, hm⟩ := gx_bind hm
    refine W_call 18 #[.slice p9627 r9625.1.length c9628, .slice p9321 r9319.1.length c9322] (by kernel_rfl) (by kernel_rfl) ?_
    refine (c_l_eqIntS w9637 r9625.1 p9627 c9628 (ho9630.rd M9639 9 (by kernel_rfl)) r9319.1 p9321 c9322 (ho9324.rd M9639 3 (by kernel_rfl)) hr9653).mono ?_
    rintro e_ w9654 ⟨rfl, K9655⟩
    have M9656 := M9639.call0 K9655
    refine ⟨_, rfl, ?_⟩
    refine W_run 2 [(0, .slice p9184 x9182.length c9185), (1, .slice p9189 x9187.length c9190), (2, .int .i64 x9192), (8, .slice p9321 r9319.1.length c9322), (9, .slice p9326 r9319.2.1.length c9327), (10, .bool r9319.2.2), (11, .slice p9336 r9334.length c9337), (12, .slice p9345 r9343.length c9346), (13, .slice p9627 r9625.1.length c9628), (14, .slice p9632 r9625.2.1.length c9633), (15, .bool r9625.2.2), (56, .bool (!r9653))] w9654 (by kernel_rfl) ?_
    rcases gx_bif hm with ⟨hc9657, hm⟩ | ⟨hc9657, hm⟩
    · refine W_known 56 true (by kernel_rfl) hc9657 ?_
      refine W_run 10 [(0, .slice p9184 x9182.length c9185), (1, .slice p9189 x9187.length c9190), (2, .int .i64 x9192), (8, .slice p9321 r9319.1.length c9322), (9, .slice p9326 r9319.2.1.length c9327), (10, .bool r9319.2.2), (11, .slice p9336 r9334.length c9337), (12, .slice p9345 r9343.length c9346), (13, .slice p9627 r9625.1.length c9628), (14, .slice p9632 r9625.2.1.length c9633), (15, .bool r9625.2.2), (66, .bool true)] w9654 (by kernel_rfl) ?_
      refine W_nil ?_
      obtain rfl := Option.some.inj hm
      exact N_meet fun a ha => ⟨M9656.pick [3, 4, 5, 6, 7, 8, 9, 10, 11] (by kernel_rfl), ha.sub (by kernel_rfl)⟩
    refine W_known 56 false (by kernel_rfl) hc9657 ?_
    refine W_run 2 [(0, .slice p9184 x9182.length c9185), (1, .slice p9189 x9187.length c9190), (2, .int .i64 x9192), (8, .slice p9321 r9319.1.length c9322), (9, .slice p9326 r9319.2.1.length c9327), (10, .bool r9319.2.2), (11, .slice p9336 r9334.length c9337), (12, .slice p9345 r9343.length c9346), (13, .slice p9627 r9625.1.length c9628), (14, .slice p9632 r9625.2.1.length c9633), (15, .bool r9625.2.2), (56, .bool false), (57, .slice p9632 r9625.2.1.length c9633), (58, .slice p9326 r9319.2.1.length c9327)] w9654 (by kernel_rfl) ?_
    obtain ⟨r9658, hr9658, hm⟩ := gx_bind hm
    refine W_call 19 #[.slice p9632 r9625.2.1.length c9633, .slice p9326 r9319.2.1.length c9327] (by kernel_rfl) (by kernel_rfl) ?_
    refine (c_l_eqBalloonS w9654 r9625.2.1 p9632 c9633 (ho9636.rd M9656 10 (by kernel_rfl) 11 (by kernel_rfl)) r9319.2.1 p9326 c9327 (ho9330.rd M9656 4 (by kernel_rfl) 5 (by kernel_rfl)) hr9658).mono ?_
    rintro e_ w9659 ⟨rfl, K9660⟩
    have M9661 := M9656.call0 K9660
    refine ⟨_, rfl, ?_⟩
    refine W_run 3 [(0, .slice p9184 x9182.length c9185), (1, .slice p9189 x9187.length c9190), (2, .int .i64 x9192), (8, .slice p9321 r9319.1.length c9322), (9, .slice p9326 r9319.2.1.length c9327), (10, .bool r9319.2.2), (11, .slice p9336 r9334.length c9337), (12, .slice p9345 r9343.length c9346), (13, .slice p9627 r9625.1.length c9628), (14, .slice p9632 r9625.2.1.length c9633), (15, .bool r9625.2.2), (62, .bool (!r9658))] w9659 (by kernel_rfl) ?_
    rcases gx_bif hm with ⟨hc9662, hm⟩ | ⟨hc9662, hm⟩
    · refine W_known 62 true (by kernel_rfl) hc9662 ?_
      refine W_run 4 [(0, .slice p9184 x9182.length c9185), (1, .slice p9189 x9187.length c9190), (2, .int .i64 x9192), (8, .slice p9321 r9319.1.length c9322), (9, .slice p9326 r9319.2.1.length c9327), (10, .bool r9319.2.2), (11, .slice p9336 r9334.length c9337), (12, .slice p9345 r9343.length c9346), (13, .slice p9627 r9625.1.length c9628), (14, .slice p9632 r9625.2.1.length c9633), (15, .bool r9625.2.2), (66, .bool true)] w9659 (by kernel_rfl) ?_
      refine W_nil ?_
      obtain rfl := Option.some.inj hm
      exact N_meet fun a ha => ⟨M9661.pick [3, 4, 5, 6, 7, 8, 9, 10, 11] (by kernel_rfl), ha.sub (by kernel_rfl)⟩
    refine W_known 62 false (by kernel_rfl) hc9662 ?_
    refine W_run 4 [(0, .slice p9184 x9182.length c9185), (1, .slice p9189 x9187.length c9190), (2, .int .i64 x9192), (8, .slice p9321 r9319.1.length c9322), (9, .slice p9326 r9319.2.1.length c9327), (10, .bool r9319.2.2), (11, .slice p9336 r9334.length c9337), (12, .slice p9345 r9343.length c9346), (13, .slice p9627 r9625.1.length c9628), (14, .slice p9632 r9625.2.1.length c9633), (15, .bool r9625.2.2), (66, .bool (!(r9625.2.2 == r9319.2.2)))] w9659 (by kernel_rfl) ?_
    refine W_nil ?_
    obtain rfl := Option.some.inj hm
    exact N_meet fun a ha => ⟨M9661.pick [3, 4, 5, 6, 7, 8, 9, 10, 11] (by kernel_rfl), ha.sub (by kernel_rfl)⟩
  intro a9665 w9663 ⟨M9664, hS9666⟩
  refine N_use hS9666 ?_
  have hm := hm9652
  refine N_then ?_
  rcases gx_bif hm with ⟨hc9667, hm⟩ | ⟨hc9667, hm⟩
  · refine G_cond_t (b := o9650) hc9667 (by kernel_rfl) ?_
    refine G_seq ?_
    refine G_region ?_
    refine W_run 1 [(6, .bool false)] w9663 (by kernel_rfl) ?_
    refine W_nil ?_
    refine N_then ?_
    refine G_ret ?_
    refine N_then_ret ?_
    obtain rfl := Option.some.inj hm
    refine N_ret [.bool false] (RVs_cons (RV_tmp (by kernel_rfl)) RVs_nil) ?_
    exact ⟨rfl, M9664.pick [] (by kernel_rfl)⟩
  refine G_cond_f (b := o9650) hc9667 (by kernel_rfl) ?_
  refine G_skip ?_
  refine N_then ?_
  refine G_seq ?_
  refine G_seq ?_
  refine G_region ?_
  refine W_run 2 [(0, .slice p9184 x9182.length c9185), (1, .slice p9189 x9187.length c9190), (2, .int .i64 x9192), (8, .slice p9321 r9319.1.length c9322), (9, .slice p9326 r9319.2.1.length c9327), (10, .bool r9319.2.2), (11, .slice p9336 r9334.length c9337), (12, .slice p9345 r9343.length c9346), (13, .slice p9627 r9625.1.length c9628), (14, .slice p9632 r9625.2.1.length c9633), (15, .bool r9625.2.2), (67, .slice p9336 r9334.length c9337), (68, .slice p9184 x9182.length c9185)] w9663 (by kernel_rfl) ?_
  obtain ⟨r9668, hr9668, hm⟩ := gx_bind hm
  refine W_call 15 #[.slice p9184 x9182.length c9185] (by kernel_rfl) (by kernel_rfl) ?_
  refine (c_l_toIntS w9663 x9182 p9184 c9185 (h9186.mem0 M9664) hr9668).mono ?_
  rintro e_ w9674 ⟨p9670, c9671, sg9672, rfl, ho9673, K9675⟩
  have M9676 := M9664.call K9675
  refine ⟨_, rfl, ?_⟩
  obtain ⟨r9677, hr9677, hm⟩ := gx_bind hm
  refine W_call 18 #[.slice p9336 r9334.length c9337, .slice p9670 r9668.length c9671] (by kernel_rfl) (by kernel_rfl) ?_
  refine (c_l_eqIntS w9674 r9334 p9336 c9337 (ho9339.rd M9676 3 (by kernel_rfl)) r9668 p9670 c9671 (ho9673.rd M9676 9 (by kernel_rfl)) hr9677).mono ?_
  rintro e_ w9678 ⟨rfl, K9679⟩
  have M9680 := M9676.call0 K9679
  refine ⟨_, rfl, ?_⟩
  refine W_run 1 [(0, .slice p9184 x9182.length c9185), (1, .slice p9189 x9187.length c9190), (2, .int .i64 x9192), (8, .slice p9321 r9319.1.length c9322), (9, .slice p9326 r9319.2.1.length c9327), (10, .bool r9319.2.2), (11, .slice p9336 r9334.length c9337), (12, .slice p9345 r9343.length c9346), (13, .slice p9627 r9625.1.length c9628), (14, .slice p9632 r9625.2.1.length c9633), (15, .bool r9625.2.2), (71, .bool (!r9677))] w9678 (by kernel_rfl) ?_
  refine W_nil ?_
  refine N_then ?_
  rcases gx_bif hm with ⟨hc9681, hm⟩ | ⟨hc9681, hm⟩
  · refine G_cond_t (b := (!r9677)) hc9681 (by kernel_rfl) ?_
    refine G_seq ?_
    refine G_region ?_
    refine W_run 1 [(6, .bool false)] w9678 (by kernel_rfl) ?_
    refine W_nil ?_
    refine N_then ?_
    refine G_ret ?_
    refine N_then_ret ?_
    obtain rfl := Option.some.inj hm
    refine N_ret [.bool false] (RVs_cons (RV_tmp (by kernel_rfl)) RVs_nil) ?_
    exact ⟨rfl, M9680.pick [] (by kernel_rfl)⟩
  refine G_cond_f (b := (!r9677)) hc9681 (by kernel_rfl) ?_
  refine G_skip ?_
  refine N_then ?_
  refine G_seq ?_
  refine G_seq ?_
  refine G_region ?_
  refine W_run 2 [(0, .slice p9184 x9182.length c9185), (1, .slice p9189 x9187.length c9190), (2, .int .i64 x9192), (8, .slice p9321 r9319.1.length c9322), (9, .slice p9326 r9319.2.1.length c9327), (10, .bool r9319.2.2), (11, .slice p9336 r9334.length c9337), (12, .slice p9345 r9343.length c9346), (13, .slice p9627 r9625.1.length c9628), (14, .slice p9632 r9625.2.1.length c9633), (15, .bool r9625.2.2), (72, .slice p9345 r9343.length c9346), (73, .slice p9189 x9187.length c9190)] w9678 (by kernel_rfl) ?_
  obtain ⟨r9682, hr9682, hm⟩ := gx_bind hm
  refine W_call 16 #[.slice p9189 x9187.length c9190] (by kernel_rfl) (by kernel_rfl) ?_
  refine (c_l_toBalloonS w9678 x9187 p9189 c9190 (h9191.mem0 M9680) hr9682).mono ?_
  rintro e_ w9689 ⟨p9684, c9685, sg9686, sg9687, rfl, ho9688, K9690⟩
  have M9691 := M9680.call K9690
  refine ⟨_, rfl, ?_⟩
  obtain ⟨r9692, hr9692, hm⟩ := gx_bind hm
  refine W_call 19 #[.slice p9345 r9343.length c9346, .slice p9684 r9682.length c9685] (by kernel_rfl) (by kernel_rfl) ?_
  refine (c_l_eqBalloonS w9689 r9343 p9345 c9346 (ho9349.rd M9691 4 (by kernel_rfl) 5 (by kernel_rfl)) r9682 p9684 c9685 (ho9688.rd M9691 10 (by kernel_rfl) 11 (by kernel_rfl)) hr9692).mono ?_
  rintro e_ w9693 ⟨rfl, K9694⟩
  have M9695 := M9691.call0 K9694
  refine ⟨_, rfl, ?_⟩
  refine W_run 1 [(0, .slice p9184 x9182.length c9185), (1, .slice p9189 x9187.length c9190), (2, .int .i64 x9192), (8, .slice p9321 r9319.1.length c9322), (9, .slice p9326 r9319.2.1.length c9327), (10, .bool r9319.2.2), (11, .slice p9336 r9334.length c9337), (12, .slice p9345 r9343.length c9346), (13, .slice p9627 r9625.1.length c9628), (14, .slice p9632 r9625.2.1.length c9633), (15, .bool r9625.2.2), (76, .bool (!r9692))] w9693 (by kernel_rfl) ?_
  refine W_nil ?_
  refine N_then ?_
  rcases gx_bif hm with ⟨hc9696, hm⟩ | ⟨hc9696, hm⟩
  · refine G_cond_t (b := (!r9692)) hc9696 (by kernel_rfl) ?_
    refine G_seq ?_
    refine G_region ?_
    refine W_run 1 [(6, .bool false)] w9693 (by kernel_rfl) ?_
    refine W_nil ?_
    refine N_then ?_
    refine G_ret ?_
    refine N_then_ret ?_
    obtain rfl := Option.some.inj hm
    refine N_ret [.bool false] (RVs_cons (RV_tmp (by kernel_rfl)) RVs_nil) ?_
    exact ⟨rfl, M9695.pick [] (by kernel_rfl)⟩
  refine G_cond_f (b := (!r9692)) hc9696 (by kernel_rfl) ?_
  refine G_skip ?_
  refine N_then ?_
  refine G_seq ?_
  refine G_region ?_
  refine W_run 1 [(0, .slice p9184 x9182.length c9185), (1, .slice p9189 x9187.length c9190), (2, .int .i64 x9192), (8, .slice p9321 r9319.1.length c9322), (9, .slice p9326 r9319.2.1.length c9327), (10, .bool r9319.2.2), (11, .slice p9336 r9334.length c9337), (12, .slice p9345 r9343.length c9346), (13, .slice p9627 r9625.1.length c9628), (14, .slice p9632 r9625.2.1.length c9633), (15, .bool r9625.2.2), (16, .int .i64 1)] w9693 (by kernel_rfl) ?_
  refine W_nil ?_
  refine N_then ?_
  refine G_seq ?_
  refine G_region ?_
  refine W_run 2 [(0, .slice p9184 x9182.length c9185), (1, .slice p9189 x9187.length c9190), (2, .int .i64 x9192), (8, .slice p9321 r9319.1.length c9322), (9, .slice p9326 r9319.2.1.length c9327), (10, .bool r9319.2.2), (12, .slice p9345 r9343.length c9346), (13, .slice p9627 r9625.1.length c9628), (14, .slice p9632 r9625.2.1.length c9633), (15, .bool r9625.2.2), (16, .int .i64 1), (77, .slice p9336 r9334.length c9337), (78, .int .i64 1)] w9693 (by kernel_rfl) ?_
  obtain ⟨r9697, hr9697, hm⟩ := gx_bind hm
  refine W_call 24 #[.slice p9336 r9334.length c9337, .int .i64 1] (by kernel_rfl) (by kernel_rfl) ?_
  refine (c_l_markIntS w9693 r9334 p9336 c9337 sg9338 ho9339 1 (M9695.hasPick [3]) (M9695.nodupPick [3] (by kernel_rfl)) hr9697).mono ?_
  rintro e_ w9701 ⟨sg9698, rfl, ho9699, hl9700, K9702⟩
  have M9703 := M9695.callF' [3] [0, 1, 2, 4, 5, 6, 7, 8, 9, 10, 11] (by kernel_rfl) K9702
  refine ⟨_, rfl, ?_⟩
  refine W_conv 77 (.slice p9336 r9334.length c9337) (.slice p9336 r9697.2.length c9337) (by kernel_rfl) (by first | rw [hl9700] | rw [hl9700]) ?_
  refine W_run 1 [(0, .slice p9184 x9182.length c9185), (1, .slice p9189 x9187.length c9190), (2, .int .i64 x9192), (8, .slice p9321 r9319.1.length c9322), (9, .slice p9326 r9319.2.1.length c9327), (10, .bool r9319.2.2), (12, .slice p9345 r9343.length c9346), (13, .slice p9627 r9625.1.length c9628), (14, .slice p9632 r9625.2.1.length c9633), (15, .bool r9625.2.2), (16, .int .i64 r9697.1)] w9701 (by kernel_rfl) ?_
  refine W_nil ?_
  refine N_then ?_
  refine G_seq ?_
  refine G_region ?_
  refine W_run 2 [(0, .slice p9184 x9182.length c9185), (1, .slice p9189 x9187.length c9190), (2, .int .i64 x9192), (8, .slice p9321 r9319.1.length c9322), (9, .slice p9326 r9319.2.1.length c9327), (10, .bool r9319.2.2), (13, .slice p9627 r9625.1.length c9628), (14, .slice p9632 r9625.2.1.length c9633), (15, .bool r9625.2.2), (16, .int .i64 r9697.1), (80, .slice p9345 r9343.length c9346), (81, .int .i64 r9697.1)] w9701 (by kernel_rfl) ?_
  obtain ⟨r9704, hr9704, hm⟩ := gx_bind hm
  refine W_call 25 #[.slice p9345 r9343.length c9346, .int .i64 r9697.1] (by kernel_rfl) (by kernel_rfl) ?_
  refine (c_l_markBalloonS w9701 r9343 p9345 c9346 sg9347 sg9348 ho9349 r9697.1 (M9703.hasPick [3, 4]) (M9703.nodupPick [3, 4] (by kernel_rfl)) hr9704).mono ?_
  rintro e_ w9709 ⟨sg9705, sg9706, rfl, ho9707, hl9708, K9710⟩
  have M9711 := M9703.callF' [3, 4] [0, 1, 2, 5, 6, 7, 8, 9, 10, 11] (by kernel_rfl) K9710
  refine ⟨_, rfl, ?_⟩
  refine W_conv 80 (.slice p9345 r9343.length c9346) (.slice p9345 r9704.2.length c9346) (by kernel_rfl) (by first | rw [hl9708] | rw [hl9708]) ?_
  refine W_run 1 [(0, .slice p9184 x9182.length c9185), (1, .slice p9189 x9187.length c9190), (2, .int .i64 x9192), (8, .slice p9321 r9319.1.length c9322), (9, .slice p9326 r9319.2.1.length c9327), (10, .bool r9319.2.2), (13, .slice p9627 r9625.1.length c9628), (14, .slice p9632 r9625.2.1.length c9633), (15, .bool r9625.2.2), (16, .int .i64 r9704.1)] w9709 (by kernel_rfl) ?_
  refine W_nil ?_
  refine N_then ?_
  refine G_seq ?_
  refine G_seq ?_
  obtain ⟨o9723, ho9724, hm9725⟩ := gx_bind hm
  refine G_meet (fun a w' => Mem [] w w' [sg9323, sg9328, sg9329, sg9629, sg9634, sg9635] ∧ Sat Try.f9.ntmps [(0, .slice p9184 x9182.length c9185), (1, .slice p9189 x9187.length c9190), (2, .int .i64 x9192), (8, .slice p9321 r9319.1.length c9322), (9, .slice p9326 r9319.2.1.length c9327), (10, .bool r9319.2.2), (13, .slice p9627 r9625.1.length c9628), (14, .slice p9632 r9625.2.1.length c9633), (101, .bool o9723)] a) ?_ ?_
  · have hm := ho9724
    refine G_region ?_
    refine W_run 3 [(0, .slice p9184 x9182.length c9185), (1, .slice p9189 x9187.length c9190), (2, .int .i64 x9192), (8, .slice p9321 r9319.1.length c9322), (9, .slice p9326 r9319.2.1.length c9327), (10, .bool r9319.2.2), (13, .slice p9627 r9625.1.length c9628), (14, .slice p9632 r9625.2.1.length c9633), (15, .bool r9625.2.2), (85, .bool (decide (r9704.1 < 0)))] w9709 (by kernel_rfl) ?_
    rcases gx_bif hm with ⟨hc9726, hm⟩ | ⟨hc9726, hm⟩
    · refine W_known 85 true (by kernel_rfl) hc9726 ?_
      refine W_run 16 [(0, .slice p9184 x9182.length c9185), (1, .slice p9189 x9187.length c9190), (2, .int .i64 x9192), (8, .slice p9321 r9319.1.length c9322), (9, .slice p9326 r9319.2.1.length c9327), (10, .bool r9319.2.2), (13, .slice p9627 r9625.1.length c9628), (14, .slice p9632 r9625.2.1.length c9633), (101, .bool true)] w9709 (by kernel_rfl) ?_
      refine W_nil ?_
      obtain rfl := Option.some.inj hm
      exact N_meet fun a ha => ⟨M9711.pick [0, 1, 2, 3, 4, 5] (by kernel_rfl), ha.sub (by kernel_rfl)⟩
    refine W_known 85 false (by kernel_rfl) hc9726 ?_
    refine W_run 2 [(0, .slice p9184 x9182.length c9185), (1, .slice p9189 x9187.length c9190), (2, .int .i64 x9192), (8, .slice p9321 r9319.1.length c9322), (9, .slice p9326 r9319.2.1.length c9327), (10, .bool r9319.2.2), (13, .slice p9627 r9625.1.length c9628), (14, .slice p9632 r9625.2.1.length c9633), (15, .bool r9625.2.2), (85, .bool false), (86, .slice p9627 r9625.1.length c9628), (87, .slice p9321 r9319.1.length c9322)] w9709 (by kernel_rfl) ?_
    obtain ⟨r9727, hr9727, hm⟩ := gx_bind hm
    refine W_call 18 #[.slice p9627 r9625.1.length c9628, .slice p9321 r9319.1.length c9322] (by kernel_rfl) (by kernel_rfl) ?_
    refine (c_l_eqIntS w9709 r9625.1 p9627 c9628 (ho9630.rd M9711 3 (by kernel_rfl)) r9319.1 p9321 c9322 (ho9324.rd M9711 0 (by kernel_rfl)) hr9727).mono ?_
    rintro e_ w9728 ⟨rfl, K9729⟩
    have M9730 := M9711.call0 K9729
    refine ⟨_, rfl, ?_⟩
    refine W_run 3 [(0, .slice p9184 x9182.length c9185), (1, .slice p9189 x9187.length c9190), (2, .int .i64 x9192), (8, .slice p9321 r9319.1.length c9322), (9, .slice p9326 r9319.2.1.length c9327), (10, .bool r9319.2.2), (13, .slice p9627 r9625.1.length c9628), (14, .slice p9632 r9625.2.1.length c9633), (15, .bool r9625.2.2), (91, .bool (!r9727))] w9728 (by kernel_rfl) ?_
    rcases gx_bif hm with ⟨hc9731, hm⟩ | ⟨hc9731, hm⟩
    · refine W_known 91 true (by kernel_rfl) hc9731 ?_
      refine W_run 10 [(0, .slice p9184 x9182.length c9185), (1, .slice p9189 x9187.length c9190), (2, .int .i64 x9192), (8, .slice p9321 r9319.1.length c9322), (9, .slice p9326 r9319.2.1.length c9327), (10, .bool r9319.2.2), (13, .slice p9627 r9625.1.length c9628), (14, .slice p9632 r9625.2.1.length c9633), (101, .bool true)] w9728 (by kernel_rfl) ?_
      refine W_nil ?_
      obtain rfl := Option.some.inj hm
      exact N_meet fun a ha => ⟨M9730.pick [0, 1, 2, 3, 4, 5] (by kernel_rfl), ha.sub (by kernel_rfl)⟩
    refine W_known 91 false (by kernel_rfl) hc9731 ?_
    refine W_run 2 [(0, .slice p9184 x9182.length c9185), (1, .slice p9189 x9187.length c9190), (2, .int .i64 x9192), (8, .slice p9321 r9319.1.length c9322), (9, .slice p9326 r9319.2.1.length c9327), (10, .bool r9319.2.2), (13, .slice p9627 r9625.1.length c9628), (14, .slice p9632 r9625.2.1.length c9633), (15, .bool r9625.2.2), (91, .bool false), (92, .slice p9632 r9625.2.1.length c9633), (93, .slice p9326 r9319.2.1.length c9327)] w9728 (by kernel_rfl) ?_
    obtain ⟨r9732, hr9732, hm⟩ := gx_bind hm
    refine W_call 19 #[.slice p9632 r9625.2.1.length c9633, .slice p9326 r9319.2.1.length c9327] (by kernel_rfl) (by kernel_rfl) ?_
    refine (c_l_eqBalloonS w9728 r9625.2.1 p9632 c9633 (ho9636.rd M9730 4 (by kernel_rfl) 5 (by kernel_rfl)) r9319.2.1 p9326 c9327 (ho9330.rd M9730 1 (by kernel_rfl) 2 (by kernel_rfl)) hr9732).mono ?_
    rintro e_ w9733 ⟨rfl, K9734⟩
    have M9735 := M9730.call0 K9734
    refine ⟨_, rfl, ?_⟩
    refine W_run 3 [(0, .slice p9184 x9182.length c9185), (1, .slice p9189 x9187.length c9190), (2, .int .i64 x9192), (8, .slice p9321 r9319.1.length c9322), (9, .slice p9326 r9319.2.1.length c9327), (10, .bool r9319.2.2), (13, .slice p9627 r9625.1.length c9628), (14, .slice p9632 r9625.2.1.length c9633), (15, .bool r9625.2.2), (97, .bool (!r9732))] w9733 (by kernel_rfl) ?_
    rcases gx_bif hm with ⟨hc9736, hm⟩ | ⟨hc9736, hm⟩
    · refine W_known 97 true (by kernel_rfl) hc9736 ?_
      refine W_run 4 [(0, .slice p9184 x9182.length c9185), (1, .slice p9189 x9187.length c9190), (2, .int .i64 x9192), (8, .slice p9321 r9319.1.length c9322), (9, .slice p9326 r9319.2.1.length c9327), (10, .bool r9319.2.2), (13, .slice p9627 r9625.1.length c9628), (14, .slice p9632 r9625.2.1.length c9633), (101, .bool true)] w9733 (by kernel_rfl) ?_
      refine W_nil ?_
      obtain rfl := Option.some.inj hm
      exact N_meet fun a ha => ⟨M9735.pick [0, 1, 2, 3, 4, 5] (by kernel_rfl), ha.sub (by kernel_rfl)⟩
    refine W_known 97 false (by kernel_rfl) hc9736 ?_
    refine W_run 4 [(0, .slice p9184 x9182.length c9185), (1, .slice p9189 x9187.length c9190), (2, .int .i64 x9192), (8, .slice p9321 r9319.1.length c9322), (9, .slice p9326 r9319.2.1.length c9327), (10, .bool r9319.2.2), (13, .slice p9627 r9625.1.length c9628), (14, .slice p9632 r9625.2.1.length c9633), (101, .bool (!(r9625.2.2 == r9319.2.2)))] w9733 (by kernel_rfl) ?_
    refine W_nil ?_
    obtain rfl := Option.some.inj hm
    exact N_meet fun a ha => ⟨M9735.pick [0, 1, 2, 3, 4, 5] (by kernel_rfl), ha.sub (by kernel_rfl)⟩
  intro a9739 w9737 ⟨M9738, hS9740⟩
  refine N_use hS9740 ?_
  have hm := hm9725
  refine N_then ?_
  rcases gx_bif hm with ⟨hc9741, hm⟩ | ⟨hc9741, hm⟩
  · refine G_cond_t (b := o9723) hc9741 (by kernel_rfl) ?_
    refine G_seq ?_
    refine G_region ?_
    refine W_run 1 [(6, .bool false)] w9737 (by kernel_rfl) ?_
    refine W_nil ?_
    refine N_then ?_
    refine G_ret ?_
    refine N_then_ret ?_
    obtain rfl := Option.some.inj hm
    refine N_ret [.bool false] (RVs_cons (RV_tmp (by kernel_rfl)) RVs_nil) ?_
    exact ⟨rfl, M9738.pick [] (by kernel_rfl)⟩
  refine G_cond_f (b := o9723) hc9741 (by kernel_rfl) ?_
  refine G_skip ?_
  refine N_then ?_
  refine G_seq ?_
  refine G_region ?_
  refine W_run 1 [(0, .slice p9184 x9182.length c9185), (1, .slice p9189 x9187.length c9190), (2, .int .i64 x9192), (8, .slice p9321 r9319.1.length c9322), (9, .slice p9326 r9319.2.1.length c9327), (10, .bool r9319.2.2), (13, .slice p9627 r9625.1.length c9628), (14, .slice p9632 r9625.2.1.length c9633), (17, .int .i64 1)] w9737 (by kernel_rfl) ?_
  refine W_nil ?_
  refine N_then ?_
  refine G_seq ?_
  refine G_region ?_
  refine W_run 2 [(0, .slice p9184 x9182.length c9185), (1, .slice p9189 x9187.length c9190), (2, .int .i64 x9192), (8, .slice p9321 r9319.1.length c9322), (9, .slice p9326 r9319.2.1.length c9327), (10, .bool r9319.2.2), (13, .slice p9627 r9625.1.length c9628), (14, .slice p9632 r9625.2.1.length c9633), (17, .int .i64 1), (102, .slice p9627 r9625.1.length c9628), (103, .int .i64 1)] w9737 (by kernel_rfl) ?_
  obtain ⟨r9742, hr9742, hm⟩ := gx_bind hm
  refine W_call 24 #[.slice p9627 r9625.1.length c9628, .int .i64 1] (by kernel_rfl) (by kernel_rfl) ?_
  refine (c_l_markIntS w9737 r9625.1 p9627 c9628 sg9629 ho9630 1 (M9738.hasPick [3]) (M9738.nodupPick [3] (by kernel_rfl)) hr9742).mono ?_
  rintro e_ w9746 ⟨sg9743, rfl, ho9744, hl9745, K9747⟩
  have M9748 := M9738.callF' [3] [0, 1, 2, 4, 5] (by kernel_rfl) K9747
  refine ⟨_, rfl, ?_⟩
  refine W_conv 13 (.slice p9627 r9625.1.length c9628) (.slice p9627 r9742.2.length c9628) (by kernel_rfl) (by first | rw [hl9745] | rw [hl9745]) ?_
  refine W_conv 102 (.slice p9627 r9625.1.length c9628) (.slice p9627 r9742.2.length c9628) (by kernel_rfl) (by first | rw [hl9745] | rw [hl9745]) ?_
  refine W_run 1 [(0, .slice p9184 x9182.length c9185), (1, .slice p9189 x9187.length c9190), (2, .int .i64 x9192), (8, .slice p9321 r9319.1.length c9322), (9, .slice p9326 r9319.2.1.length c9327), (10, .bool r9319.2.2), (13, .slice p9627 r9742.2.length c9628), (14, .slice p9632 r9625.2.1.length c9633), (17, .int .i64 r9742.1)] w9746 (by kernel_rfl) ?_
  refine W_nil ?_
  refine N_then ?_
  refine G_seq ?_
  refine G_region ?_
  refine W_run 2 [(0, .slice p9184 x9182.length c9185), (1, .slice p9189 x9187.length c9190), (2, .int .i64 x9192), (8, .slice p9321 r9319.1.length c9322), (9, .slice p9326 r9319.2.1.length c9327), (10, .bool r9319.2.2), (13, .slice p9627 r9742.2.length c9628), (14, .slice p9632 r9625.2.1.length c9633), (17, .int .i64 r9742.1), (105, .slice p9632 r9625.2.1.length c9633), (106, .int .i64 r9742.1)] w9746 (by kernel_rfl) ?_
  obtain ⟨r9749, hr9749, hm⟩ := gx_bind hm
  refine W_call 25 #[.slice p9632 r9625.2.1.length c9633, .int .i64 r9742.1] (by kernel_rfl) (by kernel_rfl) ?_
  refine (c_l_markBalloonS w9746 r9625.2.1 p9632 c9633 sg9634 sg9635 ho9636 r9742.1 (M9748.hasPick [3, 4]) (M9748.nodupPick [3, 4] (by kernel_rfl)) hr9749).mono ?_
  rintro e_ w9754 ⟨sg9750, sg9751, rfl, ho9752, hl9753, K9755⟩
  have M9756 := M9748.callF' [3, 4] [0, 1, 2, 5] (by kernel_rfl) K9755
  refine ⟨_, rfl, ?_⟩
  refine W_conv 14 (.slice p9632 r9625.2.1.length c9633) (.slice p9632 r9749.2.length c9633) (by kernel_rfl) (by first | rw [hl9753] | rw [hl9753]) ?_
  refine W_conv 105 (.slice p9632 r9625.2.1.length c9633) (.slice p9632 r9749.2.length c9633) (by kernel_rfl) (by first | rw [hl9753] | rw [hl9753]) ?_
  refine W_run 1 [(0, .slice p9184 x9182.length c9185), (1, .slice p9189 x9187.length c9190), (2, .int .i64 x9192), (8, .slice p9321 r9319.1.length c9322), (9, .slice p9326 r9319.2.1.length c9327), (10, .bool r9319.2.2), (13, .slice p9627 r9742.2.length c9628), (14, .slice p9632 r9749.2.length c9633), (17, .int .i64 r9749.1)] w9754 (by kernel_rfl) ?_
  refine W_nil ?_
  refine N_then ?_
  refine G_seq ?_
  refine G_region ?_
  refine W_run 1 [(0, .slice p9184 x9182.length c9185), (1, .slice p9189 x9187.length c9190), (2, .int .i64 x9192), (8, .slice p9321 r9319.1.length c9322), (9, .slice p9326 r9319.2.1.length c9327), (10, .bool r9319.2.2), (13, .slice p9627 r9742.2.length c9628), (14, .slice p9632 r9749.2.length c9633), (17, .int .i64 r9749.1), (18, .int .i64 1)] w9754 (by kernel_rfl) ?_
  refine W_nil ?_
  refine N_then ?_
  refine G_seq ?_
  refine G_region ?_
  refine W_run 2 [(0, .slice p9184 x9182.length c9185), (1, .slice p9189 x9187.length c9190), (2, .int .i64 x9192), (8, .slice p9321 r9319.1.length c9322), (9, .slice p9326 r9319.2.1.length c9327), (10, .bool r9319.2.2), (13, .slice p9627 r9742.2.length c9628), (14, .slice p9632 r9749.2.length c9633), (17, .int .i64 r9749.1), (18, .int .i64 1), (108, .slice p9627 r9742.2.length c9628), (109, .int .i64 1)] w9754 (by kernel_rfl) ?_
  obtain ⟨r9757, hr9757, hm⟩ := gx_bind hm
  refine W_call 29 #[.slice p9627 r9742.2.length c9628, .int .i64 1] (by kernel_rfl) (by kernel_rfl) ?_
  refine (c_l_heldIntS w9754 r9742.2 p9627 c9628 (ho9744.rd M9756 3 (by kernel_rfl)) 1 hr9757).mono ?_
  rintro e_ w9758 ⟨rfl, K9759⟩
  have M9760 := M9756.call0 K9759
  refine ⟨_, rfl, ?_⟩
  refine W_run 1 [(0, .slice p9184 x9182.length c9185), (1, .slice p9189 x9187.length c9190), (2, .int .i64 x9192), (8, .slice p9321 r9319.1.length c9322), (9, .slice p9326 r9319.2.1.length c9327), (10, .bool r9319.2.2), (13, .slice p9627 r9742.2.length c9628), (14, .slice p9632 r9749.2.length c9633), (17, .int .i64 r9749.1), (18, .int .i64 r9757)] w9758 (by kernel_rfl) ?_
  refine W_nil ?_
  refine N_then ?_
  refine G_seq ?_
  refine G_seq ?_
  refine G_region ?_
  refine W_run 2 [(0, .slice p9184 x9182.length c9185), (1, .slice p9189 x9187.length c9190), (2, .int .i64 x9192), (8, .slice p9321 r9319.1.length c9322), (9, .slice p9326 r9319.2.1.length c9327), (10, .bool r9319.2.2), (13, .slice p9627 r9742.2.length c9628), (14, .slice p9632 r9749.2.length c9633), (17, .int .i64 r9749.1), (18, .int .i64 r9757), (112, .bool (decide (r9757 < 0)))] w9758 (by kernel_rfl) ?_
  refine W_nil ?_
  refine N_then ?_
  rcases gx_bif hm with ⟨hc9761, hm⟩ | ⟨hc9761, hm⟩
  · refine G_cond_t (b := (decide (r9757 < 0))) hc9761 (by kernel_rfl) ?_
    refine G_seq ?_
    refine G_region ?_
    refine W_run 1 [(6, .bool false)] w9758 (by kernel_rfl) ?_
    refine W_nil ?_
    refine N_then ?_
    refine G_ret ?_
    refine N_then_ret ?_
    obtain rfl := Option.some.inj hm
    refine N_ret [.bool false] (RVs_cons (RV_tmp (by kernel_rfl)) RVs_nil) ?_
    exact ⟨rfl, M9760.pick [] (by kernel_rfl)⟩
  refine G_cond_f (b := (decide (r9757 < 0))) hc9761 (by kernel_rfl) ?_
  refine G_skip ?_
  refine N_then ?_
  refine G_seq ?_
  refine G_region ?_
  refine W_run 2 [(0, .slice p9184 x9182.length c9185), (1, .slice p9189 x9187.length c9190), (2, .int .i64 x9192), (8, .slice p9321 r9319.1.length c9322), (9, .slice p9326 r9319.2.1.length c9327), (10, .bool r9319.2.2), (13, .slice p9627 r9742.2.length c9628), (14, .slice p9632 r9749.2.length c9633), (17, .int .i64 r9749.1), (18, .int .i64 r9757), (113, .slice p9632 r9749.2.length c9633), (114, .int .i64 r9757)] w9758 (by kernel_rfl) ?_
  obtain ⟨r9762, hr9762, hm⟩ := gx_bind hm
  refine W_call 26 #[.slice p9632 r9749.2.length c9633, .int .i64 r9757] (by kernel_rfl) (by kernel_rfl) ?_
  refine (c_l_heldBalloonS w9758 r9749.2 p9632 c9633 (ho9752.rd M9760 4 (by kernel_rfl) 5 (by kernel_rfl)) r9757 hr9762).mono ?_
  rintro e_ w9763 ⟨rfl, K9764⟩
  have M9765 := M9760.call0 K9764
  refine ⟨_, rfl, ?_⟩
  refine W_run 1 [(0, .slice p9184 x9182.length c9185), (1, .slice p9189 x9187.length c9190), (2, .int .i64 x9192), (8, .slice p9321 r9319.1.length c9322), (9, .slice p9326 r9319.2.1.length c9327), (10, .bool r9319.2.2), (13, .slice p9627 r9742.2.length c9628), (14, .slice p9632 r9749.2.length c9633), (17, .int .i64 r9749.1), (18, .int .i64 r9762)] w9763 (by kernel_rfl) ?_
  refine W_nil ?_
  refine N_then ?_
  refine G_seq ?_
  refine G_seq ?_
  refine G_region ?_
  refine W_run 2 [(0, .slice p9184 x9182.length c9185), (1, .slice p9189 x9187.length c9190), (2, .int .i64 x9192), (8, .slice p9321 r9319.1.length c9322), (9, .slice p9326 r9319.2.1.length c9327), (10, .bool r9319.2.2), (13, .slice p9627 r9742.2.length c9628), (14, .slice p9632 r9749.2.length c9633), (17, .int .i64 r9749.1), (18, .int .i64 r9762), (117, .bool (decide (r9762 < 0)))] w9763 (by kernel_rfl) ?_
  refine W_nil ?_
  refine N_then ?_
  rcases gx_bif hm with ⟨hc9766, hm⟩ | ⟨hc9766, hm⟩
  · refine G_cond_t (b := (decide (r9762 < 0))) hc9766 (by kernel_rfl) ?_
    refine G_seq ?_
    refine G_region ?_
    refine W_run 1 [(6, .bool false)] w9763 (by kernel_rfl) ?_
    refine W_nil ?_
    refine N_then ?_
    refine G_ret ?_
    refine N_then_ret ?_
    obtain rfl := Option.some.inj hm
    refine N_ret [.bool false] (RVs_cons (RV_tmp (by kernel_rfl)) RVs_nil) ?_
    exact ⟨rfl, M9765.pick [] (by kernel_rfl)⟩
  refine G_cond_f (b := (decide (r9762 < 0))) hc9766 (by kernel_rfl) ?_
  refine G_skip ?_
  refine N_then ?_
  refine G_seq ?_
  refine G_seq ?_
  refine G_region ?_
  refine W_run 3 [(0, .slice p9184 x9182.length c9185), (1, .slice p9189 x9187.length c9190), (2, .int .i64 x9192), (8, .slice p9321 r9319.1.length c9322), (9, .slice p9326 r9319.2.1.length c9327), (10, .bool r9319.2.2), (13, .slice p9627 r9742.2.length c9628), (14, .slice p9632 r9749.2.length c9633), (17, .int .i64 r9749.1), (120, .bool (r9762 != r9749.1))] w9763 (by kernel_rfl) ?_
  refine W_nil ?_
  refine N_then ?_
  rcases gx_bif hm with ⟨hc9767, hm⟩ | ⟨hc9767, hm⟩
  · refine G_cond_t (b := (r9762 != r9749.1)) hc9767 (by kernel_rfl) ?_
    refine G_seq ?_
    refine G_region ?_
    refine W_run 1 [(6, .bool false)] w9763 (by kernel_rfl) ?_
    refine W_nil ?_
    refine N_then ?_
    refine G_ret ?_
    refine N_then_ret ?_
    obtain rfl := Option.some.inj hm
    refine N_ret [.bool false] (RVs_cons (RV_tmp (by kernel_rfl)) RVs_nil) ?_
    exact ⟨rfl, M9765.pick [] (by kernel_rfl)⟩
  refine G_cond_f (b := (r9762 != r9749.1)) hc9767 (by kernel_rfl) ?_
  refine G_skip ?_
  refine N_then ?_
  refine G_seq ?_
  refine G_region ?_
  refine W_run 1 [(1, .slice p9189 x9187.length c9190), (2, .int .i64 x9192), (8, .slice p9321 r9319.1.length c9322), (9, .slice p9326 r9319.2.1.length c9327), (10, .bool r9319.2.2), (13, .slice p9627 r9742.2.length c9628), (14, .slice p9632 r9749.2.length c9633), (17, .int .i64 r9749.1), (122, .slice p9184 x9182.length c9185)] w9763 (by kernel_rfl) ?_
  obtain ⟨r9768, hr9768, hm⟩ := gx_bind hm
  refine W_call 15 #[.slice p9184 x9182.length c9185] (by kernel_rfl) (by kernel_rfl) ?_
  refine (c_l_toIntS w9763 x9182 p9184 c9185 (h9186.mem0 M9765) hr9768).mono ?_
  rintro e_ w9774 ⟨p9770, c9771, sg9772, rfl, ho9773, K9775⟩
  have M9776 := M9765.call K9775
  refine ⟨_, rfl, ?_⟩
  refine W_run 1 [(2, .int .i64 x9192), (8, .slice p9321 r9319.1.length c9322), (9, .slice p9326 r9319.2.1.length c9327), (10, .bool r9319.2.2), (13, .slice p9627 r9742.2.length c9628), (14, .slice p9632 r9749.2.length c9633), (17, .int .i64 r9749.1), (123, .slice p9770 r9768.length c9771), (124, .slice p9189 x9187.length c9190)] w9774 (by kernel_rfl) ?_
  obtain ⟨r9777, hr9777, hm⟩ := gx_bind hm
  refine W_call 16 #[.slice p9189 x9187.length c9190] (by kernel_rfl) (by kernel_rfl) ?_
  refine (c_l_toBalloonS w9774 x9187 p9189 c9190 (h9191.mem0 M9776) hr9777).mono ?_
  rintro e_ w9784 ⟨p9779, c9780, sg9781, sg9782, rfl, ho9783, K9785⟩
  have M9786 := M9776.call K9785
  refine ⟨_, rfl, ?_⟩
  refine W_run 1 [(8, .slice p9321 r9319.1.length c9322), (9, .slice p9326 r9319.2.1.length c9327), (10, .bool r9319.2.2), (13, .slice p9627 r9742.2.length c9628), (14, .slice p9632 r9749.2.length c9633), (17, .int .i64 r9749.1), (123, .slice p9770 r9768.length c9771), (125, .slice p9779 r9777.length c9780), (126, .int .i64 x9192)] w9784 (by kernel_rfl) ?_
  obtain ⟨r9787, hr9787, hm⟩ := gx_bind hm
  refine W_call 35 #[.slice p9770 r9768.length c9771, .slice p9779 r9777.length c9780, .int .i64 x9192] (by kernel_rfl) (by kernel_rfl) ?_
  refine (c_i_Inflate w9784 r9768 p9770 c9771 (ho9773.rd M9786 6 (by kernel_rfl)) r9777 p9779 c9780 (ho9783.rd M9786 7 (by kernel_rfl) 8 (by kernel_rfl)) x9192 hr9787).mono ?_
  rintro e_ w9799 ⟨p9789, c9790, sg9791, p9794, c9795, sg9796, sg9797, rfl, ho9792, ho9798, K9800⟩
  have M9801 := M9786.call K9800
  refine ⟨_, rfl, ?_⟩
  refine W_run 7 [(8, .slice p9321 r9319.1.length c9322), (9, .slice p9326 r9319.2.1.length c9327), (10, .bool r9319.2.2), (13, .slice p9627 r9742.2.length c9628), (14, .slice p9632 r9749.2.length c9633), (17, .int .i64 r9749.1), (19, .slice p9789 r9787.1.length c9790), (20, .slice p9794 r9787.2.1.length c9795), (21, .bool r9787.2.2)] w9799 (by kernel_rfl) ?_
  refine W_nil ?_
  refine N_then ?_
  refine G_seq ?_
  refine G_seq ?_
  obtain ⟨o9812, ho9813, hm9814⟩ := gx_bind hm
  refine G_meet (fun a w' => Mem [] w w' [sg9743, sg9750, sg9751] ∧ Sat Try.f9.ntmps [(13, .slice p9627 r9742.2.length c9628), (14, .slice p9632 r9749.2.length c9633), (17, .int .i64 r9749.1), (145, .bool o9812)] a) ?_ ?_
  · have hm := ho9813
    refine G_region ?_
    refine W_run 2 [(9, .slice p9326 r9319.2.1.length c9327), (10, .bool r9319.2.2), (13, .slice p9627 r9742.2.length c9628), (14, .slice p9632 r9749.2.length c9633), (17, .int .i64 r9749.1), (20, .slice p9794 r9787.2.1.length c9795), (21, .bool r9787.2.2), (131, .slice p9789 r9787.1.length c9790), (132, .slice p9321 r9319.1.length c9322)] w9799 (by kernel_rfl) ?_
    obtain ⟨r9815, hr9815, hm⟩ := gx_bind hm
    refine W_call 18 #[.slice p9789 r9787.1.length c9790, .slice p9321 r9319.1.length c9322] (by kernel_rfl) (by kernel_rfl) ?_
    refine (c_l_eqIntS w9799 r9787.1 p9789 c9790 (ho9792.rd M9801 9 (by kernel_rfl)) r9319.1 p9321 c9322 (ho9324.rd M9801 0 (by kernel_rfl)) hr9815).mono ?_
    rintro e_ w9816 ⟨rfl, K9817⟩
    have M9818 := M9801.call0 K9817
    refine ⟨_, rfl, ?_⟩
    refine W_run 2 [(9, .slice p9326 r9319.2.1.length c9327), (10, .bool r9319.2.2), (13, .slice p9627 r9742.2.length c9628), (14, .slice p9632 r9749.2.length c9633), (17, .int .i64 r9749.1), (20, .slice p9794 r9787.2.1.length c9795), (21, .bool r9787.2.2), (135, .bool (!r9815))] w9816 (by kernel_rfl) ?_
    rcases gx_bif hm with ⟨hc9819, hm⟩ | ⟨hc9819, hm⟩
    · refine W_known 135 true (by kernel_rfl) hc9819 ?_
      refine W_run 10 [(13, .slice p9627 r9742.2.length c9628), (14, .slice p9632 r9749.2.length c9633), (17, .int .i64 r9749.1), (145, .bool true)] w9816 (by kernel_rfl) ?_
      refine W_nil ?_
      obtain rfl := Option.some.inj hm
      exact N_meet fun a ha => ⟨M9818.pick [3, 4, 5] (by kernel_rfl), ha.sub (by kernel_rfl)⟩
    refine W_known 135 false (by kernel_rfl) hc9819 ?_
    refine W_run 2 [(10, .bool r9319.2.2), (13, .slice p9627 r9742.2.length c9628), (14, .slice p9632 r9749.2.length c9633), (17, .int .i64 r9749.1), (21, .bool r9787.2.2), (135, .bool false), (136, .slice p9794 r9787.2.1.length c9795), (137, .slice p9326 r9319.2.1.length c9327)] w9816 (by kernel_rfl) ?_
    obtain ⟨r9820, hr9820, hm⟩ := gx_bind hm
    refine W_call 19 #[.slice p9794 r9787.2.1.length c9795, .slice p9326 r9319.2.1.length c9327] (by kernel_rfl) (by kernel_rfl) ?_
    refine (c_l_eqBalloonS w9816 r9787.2.1 p9794 c9795 (ho9798.rd M9818 10 (by kernel_rfl) 11 (by kernel_rfl)) r9319.2.1 p9326 c9327 (ho9330.rd M9818 1 (by kernel_rfl) 2 (by kernel_rfl)) hr9820).mono ?_
    rintro e_ w9821 ⟨rfl, K9822⟩
    have M9823 := M9818.call0 K9822
    refine ⟨_, rfl, ?_⟩
    refine W_run 3 [(10, .bool r9319.2.2), (13, .slice p9627 r9742.2.length c9628), (14, .slice p9632 r9749.2.length c9633), (17, .int .i64 r9749.1), (21, .bool r9787.2.2), (141, .bool (!r9820))] w9821 (by kernel_rfl) ?_
    rcases gx_bif hm with ⟨hc9824, hm⟩ | ⟨hc9824, hm⟩
    · refine W_known 141 true (by kernel_rfl) hc9824 ?_
      refine W_run 4 [(13, .slice p9627 r9742.2.length c9628), (14, .slice p9632 r9749.2.length c9633), (17, .int .i64 r9749.1), (145, .bool true)] w9821 (by kernel_rfl) ?_
      refine W_nil ?_
      obtain rfl := Option.some.inj hm
      exact N_meet fun a ha => ⟨M9823.pick [3, 4, 5] (by kernel_rfl), ha.sub (by kernel_rfl)⟩
    refine W_known 141 false (by kernel_rfl) hc9824 ?_
    refine W_run 4 [(13, .slice p9627 r9742.2.length c9628), (14, .slice p9632 r9749.2.length c9633), (17, .int .i64 r9749.1), (145, .bool (!(r9787.2.2 == r9319.2.2)))] w9821 (by kernel_rfl) ?_
    refine W_nil ?_
    obtain rfl := Option.some.inj hm
    exact N_meet fun a ha => ⟨M9823.pick [3, 4, 5] (by kernel_rfl), ha.sub (by kernel_rfl)⟩
  intro a9827 w9825 ⟨M9826, hS9828⟩
  refine N_use hS9828 ?_
  have hm := hm9814
  refine N_then ?_
  rcases gx_bif hm with ⟨hc9829, hm⟩ | ⟨hc9829, hm⟩
  · refine G_cond_t (b := o9812) hc9829 (by kernel_rfl) ?_
    refine G_seq ?_
    refine G_region ?_
    refine W_run 1 [(6, .bool false)] w9825 (by kernel_rfl) ?_
    refine W_nil ?_
    refine N_then ?_
    refine G_ret ?_
    refine N_then_ret ?_
    obtain rfl := Option.some.inj hm
    refine N_ret [.bool false] (RVs_cons (RV_tmp (by kernel_rfl)) RVs_nil) ?_
    exact ⟨rfl, M9826.pick [] (by kernel_rfl)⟩
  refine G_cond_f (b := o9812) hc9829 (by kernel_rfl) ?_
  refine G_skip ?_
  refine N_then ?_
  refine G_seq ?_
  refine G_region ?_
  refine W_run 1 [(13, .slice p9627 r9742.2.length c9628), (14, .slice p9632 r9749.2.length c9633), (17, .int .i64 r9749.1), (18, .int .i64 1)] w9825 (by kernel_rfl) ?_
  refine W_nil ?_
  refine N_then ?_
  refine G_seq ?_
  refine G_region ?_
  refine W_run 2 [(14, .slice p9632 r9749.2.length c9633), (17, .int .i64 r9749.1), (18, .int .i64 1), (146, .slice p9627 r9742.2.length c9628), (147, .int .i64 1)] w9825 (by kernel_rfl) ?_
  obtain ⟨r9830, hr9830, hm⟩ := gx_bind hm
  refine W_call 29 #[.slice p9627 r9742.2.length c9628, .int .i64 1] (by kernel_rfl) (by kernel_rfl) ?_
  refine (c_l_heldIntS w9825 r9742.2 p9627 c9628 (ho9744.rd M9826 0 (by kernel_rfl)) 1 hr9830).mono ?_
  rintro e_ w9831 ⟨rfl, K9832⟩
  have M9833 := M9826.call0 K9832
  refine ⟨_, rfl, ?_⟩
  refine W_run 1 [(14, .slice p9632 r9749.2.length c9633), (17, .int .i64 r9749.1), (18, .int .i64 r9830)] w9831 (by kernel_rfl) ?_
  refine W_nil ?_
  refine N_then ?_
  refine G_seq ?_
  refine G_seq ?_
  refine G_region ?_
  refine W_run 2 [(14, .slice p9632 r9749.2.length c9633), (17, .int .i64 r9749.1), (18, .int .i64 r9830), (150, .bool (decide (r9830 < 0)))] w9831 (by kernel_rfl) ?_
  refine W_nil ?_
  refine N_then ?_
  rcases gx_bif hm with ⟨hc9834, hm⟩ | ⟨hc9834, hm⟩
  · refine G_cond_t (b := (decide (r9830 < 0))) hc9834 (by kernel_rfl) ?_
    refine G_seq ?_
    refine G_region ?_
    refine W_run 1 [(6, .bool false)] w9831 (by kernel_rfl) ?_
    refine W_nil ?_
    refine N_then ?_
    refine G_ret ?_
    refine N_then_ret ?_
    obtain rfl := Option.some.inj hm
    refine N_ret [.bool false] (RVs_cons (RV_tmp (by kernel_rfl)) RVs_nil) ?_
    exact ⟨rfl, M9833.pick [] (by kernel_rfl)⟩
  refine G_cond_f (b := (decide (r9830 < 0))) hc9834 (by kernel_rfl) ?_
  refine G_skip ?_
  refine N_then ?_
  refine G_seq ?_
  refine G_region ?_
  refine W_run 2 [(17, .int .i64 r9749.1), (18, .int .i64 r9830), (151, .slice p9632 r9749.2.length c9633), (152, .int .i64 r9830)] w9831 (by kernel_rfl) ?_
  obtain ⟨r9835, hr9835, hm⟩ := gx_bind hm
  refine W_call 26 #[.slice p9632 r9749.2.length c9633, .int .i64 r9830] (by kernel_rfl) (by kernel_rfl) ?_
  refine (c_l_heldBalloonS w9831 r9749.2 p9632 c9633 (ho9752.rd M9833 1 (by kernel_rfl) 2 (by kernel_rfl)) r9830 hr9835).mono ?_
  rintro e_ w9836 ⟨rfl, K9837⟩
  have M9838 := M9833.call0 K9837
  refine ⟨_, rfl, ?_⟩
  refine W_run 1 [(17, .int .i64 r9749.1), (18, .int .i64 r9835)] w9836 (by kernel_rfl) ?_
  refine W_nil ?_
  refine N_then ?_
  refine G_seq ?_
  refine G_seq ?_
  refine G_region ?_
  refine W_run 2 [(17, .int .i64 r9749.1), (18, .int .i64 r9835), (155, .bool (decide (r9835 < 0)))] w9836 (by kernel_rfl) ?_
  refine W_nil ?_
  refine N_then ?_
  rcases gx_bif hm with ⟨hc9839, hm⟩ | ⟨hc9839, hm⟩
  · refine G_cond_t (b := (decide (r9835 < 0))) hc9839 (by kernel_rfl) ?_
    refine G_seq ?_
    refine G_region ?_
    refine W_run 1 [(6, .bool false)] w9836 (by kernel_rfl) ?_
    refine W_nil ?_
    refine N_then ?_
    refine G_ret ?_
    refine N_then_ret ?_
    obtain rfl := Option.some.inj hm
    refine N_ret [.bool false] (RVs_cons (RV_tmp (by kernel_rfl)) RVs_nil) ?_
    exact ⟨rfl, M9838.pick [] (by kernel_rfl)⟩
  refine G_cond_f (b := (decide (r9835 < 0))) hc9839 (by kernel_rfl) ?_
  refine G_skip ?_
  refine N_then ?_
  refine G_seq ?_
  refine G_seq ?_
  refine G_region ?_
  refine W_run 3 [(158, .bool (r9835 != r9749.1))] w9836 (by kernel_rfl) ?_
  refine W_nil ?_
  refine N_then ?_
  rcases gx_bif hm with ⟨hc9840, hm⟩ | ⟨hc9840, hm⟩
  · refine G_cond_t (b := (r9835 != r9749.1)) hc9840 (by kernel_rfl) ?_
    refine G_seq ?_
    refine G_region ?_
    refine W_run 1 [(6, .bool false)] w9836 (by kernel_rfl) ?_
    refine W_nil ?_
    refine N_then ?_
    refine G_ret ?_
    refine N_then_ret ?_
    obtain rfl := Option.some.inj hm
    refine N_ret [.bool false] (RVs_cons (RV_tmp (by kernel_rfl)) RVs_nil) ?_
    exact ⟨rfl, M9838.pick [] (by kernel_rfl)⟩
  refine G_cond_f (b := (r9835 != r9749.1)) hc9840 (by kernel_rfl) ?_
  refine G_skip ?_
  refine N_then ?_
  refine G_seq ?_
  refine G_region ?_
  refine W_run 1 [(6, .bool true)] w9836 (by kernel_rfl) ?_
  refine W_nil ?_
  refine N_then ?_
  refine G_ret ?_
  obtain rfl := Option.some.inj hm
  refine N_ret [.bool true] (RVs_cons (RV_tmp (by kernel_rfl)) RVs_nil) ?_
  exact ⟨rfl, M9838.pick [] (by kernel_rfl)⟩
theorem c_s_SettleGuest (w : World) (x9877 : List Int) (p9879 : Option Addr) (c9880 : Nat) (h9881 : rdS Gx.encI w x9877 p9879 c9880) (x9882 : List Balloon) (p9884 : Option Addr) (c9885 : Nat) (h9886 : rdD deepBalloon w x9882 p9884 c9885) (x9887 : Int) {r : (List Int) × (List Balloon) × Int × Bool} (hm : M.s_SettleGuest x9877 x9882 x9887 = some r) :
    Calls Try.prog 36 #[.slice p9879 x9877.length c9880, .slice p9884 x9882.length c9885, .int .i64 x9887] w fun e w' => ∃ (p9889 : Option Addr) (c9890 : Nat) (sg9891 : Seg), ∃ (p9893 : Option Addr) (c9894 : Nat) (sg9895 : Seg) (sg9896 : Seg), e = .returned (.tuple #[.slice p9889 r.1.length c9890, .slice p9893 r.2.1.length c9894, .int .i64 r.2.2.1, .bool r.2.2.2]) ∧ ownS Gx.encI r.1 p9889 c9890 sg9891 ∧ ownD deepBalloon r.2.1 p9893 c9894 sg9895 sg9896 ∧ Mem [] w w' [sg9891, sg9895, sg9896] := by
  unfold M.s_SettleGuest at hm
  refine C_enter Try.func36 rfl (by kernel_rfl) ?_
  have M0 := Mem.refl [] w
  refine G_seq ?_
  refine G_region ?_
  refine W_run 4 [(0, .slice p9879 x9877.length c9880), (1, .slice p9884 x9882.length c9885), (2, .int .i64 x9887)] w (by kernel_rfl) ?_
  refine W_nil ?_
  refine N_then ?_
  refine G_seq ?_
  refine G_region ?_
  refine W_run 2 [(0, .slice p9879 x9877.length c9880), (1, .slice p9884 x9882.length c9885), (18, .slice p9884 x9882.length c9885), (19, .int .i64 x9887)] w (by kernel_rfl) ?_
  obtain ⟨r9899, hr9899, hm⟩ := gx_bind hm
  refine W_call 56 #[.slice p9884 x9882.length c9885, .int .i64 x9887] (by kernel_rfl) (by kernel_rfl) ?_
  refine (c_s_l18Find w x9882 p9884 c9885 (h9886.mem0 M0) x9887 hr9899).mono ?_
  rintro e_ w9900 ⟨rfl, K9901⟩
  have M9902 := M0.call0 K9901
  refine ⟨_, rfl, ?_⟩
  refine W_run 1 [(0, .slice p9879 x9877.length c9880), (1, .slice p9884 x9882.length c9885), (10, .int .i64 r9899)] w9900 (by kernel_rfl) ?_
  refine W_nil ?_
  refine N_then ?_
  refine G_seq ?_
  refine G_seq ?_
  obtain ⟨o9908, ho9909, hm9910⟩ := gx_bind hm
  refine G_meet (fun a w' => Mem [] w w' [] ∧ Sat Try.f36.ntmps [(0, .slice p9879 x9877.length c9880), (1, .slice p9884 x9882.length c9885), (10, .int .i64 r9899), (28, .bool o9908)] a) ?_ ?_
  · have hm := ho9909
    refine G_region ?_
    refine W_run 2 [(0, .slice p9879 x9877.length c9880), (1, .slice p9884 x9882.length c9885), (10, .int .i64 r9899), (21, .slice p9879 x9877.length c9880), (22, .slice p9884 x9882.length c9885)] w9900 (by kernel_rfl) ?_
    obtain ⟨r9911, hr9911, hm⟩ := gx_bind hm
    refine W_call 47 #[.slice p9879 x9877.length c9880, .slice p9884 x9882.length c9885] (by kernel_rfl) (by kernel_rfl) ?_
    refine (c_s_l18Good w9900 x9877 p9879 c9880 (h9881.mem0 M9902) x9882 p9884 c9885 (h9886.mem0 M9902) hr9911).mono ?_
    rintro e_ w9912 ⟨rfl, K9913⟩
    have M9914 := M9902.call0 K9913
    refine ⟨_, rfl, ?_⟩
    refine W_run 2 [(0, .slice p9879 x9877.length c9880), (1, .slice p9884 x9882.length c9885), (10, .int .i64 r9899), (25, .bool (!r9911))] w9912 (by kernel_rfl) ?_
    rcases gx_bif hm with ⟨hc9915, hm⟩ | ⟨hc9915, hm⟩
    · refine W_known 25 true (by kernel_rfl) hc9915 ?_
      refine W_run 3 [(0, .slice p9879 x9877.length c9880), (1, .slice p9884 x9882.length c9885), (10, .int .i64 r9899), (28, .bool true)] w9912 (by kernel_rfl) ?_
      refine W_nil ?_
      obtain rfl := Option.some.inj hm
      exact N_meet fun a ha => ⟨M9914.pick [] (by kernel_rfl), ha.sub (by kernel_rfl)⟩
    refine W_known 25 false (by kernel_rfl) hc9915 ?_
    refine W_run 3 [(0, .slice p9879 x9877.length c9880), (1, .slice p9884 x9882.length c9885), (10, .int .i64 r9899), (28, .bool (decide (r9899 < 0)))] w9912 (by kernel_rfl) ?_
    refine W_nil ?_
    obtain rfl := Option.some.inj hm
    exact N_meet fun a ha => ⟨M9914.pick [] (by kernel_rfl), ha.sub (by kernel_rfl)⟩
  intro a9918 w9916 ⟨M9917, hS9919⟩
  refine N_use hS9919 ?_
  have hm := hm9910
  refine N_then ?_
  rcases gx_bif hm with ⟨hc9920, hm⟩ | ⟨hc9920, hm⟩
  · refine G_cond_t (b := o9908) hc9920 (by kernel_rfl) ?_
    refine G_seq ?_
    refine G_region ?_
    refine W_lit (E := Gx.encI) ([] : List Int) 0 [] 3 M9917 (by kernel_rfl) (by kernel_rfl) (by kernel_rfl) (by kernel_rfl) (by kernel_rfl) ?_
    intro p9921 c9922 sg9923 w9924 ho9925 M9926
    have M9928 : Mem [] w w9924 [sg9923] := M9926.pick [0] (by kernel_rfl)
    have M9929 : Mem [] w w9924 [sg9923, []] := M9928.regroup (by simp)
    refine W_litD (D := deepBalloon) [] ([] : List Balloon) rfl 0 [] 50 M9929 (by kernel_rfl) (by kernel_rfl) (by kernel_rfl) (by kernel_rfl) (by kernel_rfl) ownI_nil ?_
    intro p9930 c9931 sg9932 w9933 ho9934 M9935
    refine W_run 4 [(6, .slice p9921 ([] : List Int).length c9922), (7, .slice p9930 ([] : List Balloon).length c9931), (8, .int .i64 0), (9, .bool false)] w9933 (by kernel_rfl) ?_
    refine W_nil ?_
    refine N_then ?_
    refine G_ret ?_
    refine N_then_ret ?_
    obtain rfl := Option.some.inj hm
    refine N_ret [.slice p9921 ([] : List Int).length c9922, .slice p9930 ([] : List Balloon).length c9931, .int .i64 0, .bool false] (RVs_cons (RV_tmp (by kernel_rfl)) (RVs_cons (RV_tmp (by kernel_rfl)) (RVs_cons (RV_tmp (by kernel_rfl)) (RVs_cons (RV_tmp (by kernel_rfl)) RVs_nil)))) ?_
    exact ⟨p9921, c9922, sg9923, p9930, c9931, sg9932, [], rfl, ho9925, ho9934, M9935.pick [0, 2, 1] (by kernel_rfl)⟩
  refine G_cond_f (b := o9908) hc9920 (by kernel_rfl) ?_
  refine G_skip ?_
  refine N_then ?_
  refine G_seq ?_
  refine G_region ?_
  refine W_run 1 [(1, .slice p9884 x9882.length c9885), (10, .int .i64 r9899), (31, .slice p9879 x9877.length c9880)] w9916 (by kernel_rfl) ?_
  obtain ⟨r9937, hr9937, hm⟩ := gx_bind hm
  refine W_call 71 #[.slice p9879 x9877.length c9880] (by kernel_rfl) (by kernel_rfl) ?_
  refine (c_s_l1Own w9916 x9877 p9879 c9880 (h9881.mem0 M9917) hr9937).mono ?_
  rintro e_ w9943 ⟨p9939, c9940, sg9941, rfl, ho9942, K9944⟩
  have M9945 := M9917.call K9944
  refine ⟨_, rfl, ?_⟩
  refine W_run 1 [(1, .slice p9884 x9882.length c9885), (10, .int .i64 r9899), (32, .slice p9939 r9937.length c9940), (33, .slice p9884 x9882.length c9885)] w9943 (by kernel_rfl) ?_
  obtain ⟨r9947, hr9947, hm⟩ := gx_bind hm
  refine W_call 58 #[.slice p9884 x9882.length c9885, .int .i64 (-1), .int .i64 0, .slice none 0 0] (by kernel_rfl) (by kernel_rfl) ?_
  refine (c_s_l18With w9943 x9882 p9884 c9885 (h9886.mem0 M9945) (-1) 0 ([] : List Int) none 0 rdS_nil hr9947).mono ?_
  rintro e_ w9954 ⟨p9949, c9950, sg9951, sg9952, rfl, ho9953, K9955⟩
  have M9956 := M9945.call K9955
  refine ⟨_, rfl, ?_⟩
  refine W_run 3 [(1, .slice p9884 x9882.length c9885), (10, .int .i64 r9899), (11, .slice p9939 r9937.length c9940), (12, .slice p9949 r9947.length c9950), (13, .int .i64 0)] w9954 (by kernel_rfl) ?_
  refine W_nil ?_
  refine N_then ?_
  refine G_seq ?_
  refine G_region ?_
  refine W_run 1 [(1, .slice p9884 x9882.length c9885), (10, .int .i64 r9899), (11, .slice p9939 r9937.length c9940), (12, .slice p9949 r9947.length c9950), (13, .int .i64 0), (14, .int .i64 1)] w9954 (by kernel_rfl) ?_
  refine W_nil ?_
  refine N_then ?_
  refine G_seq ?_
  refine G_seq ?_
  refine G_quiet (by kernel_rfl) (by kernel_rfl) M9956 ?_
  refine Z_runs [.slice p9884 x9882.length c9885, .int .i64 r9899] [(1, .slice p9884 x9882.length c9885), (10, .int .i64 r9899), (11, .slice p9939 r9937.length c9940), (12, .slice p9949 r9947.length c9950), (13, .int .i64 0), (14, .int .i64 1), (35, .slice p9884 x9882.length c9885), (36, .int .i64 r9899)] (fun w_ => by kernel_rfl) (by kernel_rfl) ?_
  obtain ⟨y9957, hy9957, hm⟩ := gx_bind hm
  obtain ⟨zs9958, hz9959, hr9960, hi9961⟩ := id h9886
  obtain ⟨g9962, hg9963⟩ := gxIdx_fst hz9959 hy9957
  refine Z_val (elemP p9884 (r9899.toNat * 3)) (by kernel_rfl) (fun w_ M_ => (E_index (E := deepBalloon.E) _ _ _ x9882.length c9885 .i64 r9899 3 (y := (y9957, g9962)) rfl (by kernel_rfl) (by kernel_rfl) (by kernel_rfl) (hr9960.mem0 M_) (len_fst hz9959) hg9963)) ?_
  refine Z_val (elemP p9884 (r9899.toNat * 3 + 2)) (by kernel_rfl) (fun w_ M_ => (E_fieldE (E := deepBalloon.E) _ _ 2 (r9899.toNat * 3) 2 rfl (by kernel_rfl) (by kernel_rfl) (hr9960.mem0 M_) hg9963)) ?_
  refine Z_val (.slice ((g9962 0).1) y9957.Gave.length ((g9962 0).2)) (by kernel_rfl) (fun w_ M_ => (E_loadE (E := deepBalloon.E) _ _ false 1 r9899 2 (r9899.toNat * 3 + 2) (y9957, g9962) (.slice ((g9962 0).1) y9957.Gave.length ((g9962 0).2)) rfl (by kernel_rfl) (by kernel_rfl) (by kernel_rfl) (hr9960.mem0 M_) hg9963 rfl)) ?_
  refine Z_runs [.int .i64 (y9957.Gave.length : Int), .slice p9884 x9882.length c9885, .int .i64 r9899] [(10, .int .i64 r9899), (11, .slice p9939 r9937.length c9940), (12, .slice p9949 r9947.length c9950), (13, .int .i64 0), (14, .int .i64 1), (40, .int .i64 (y9957.Gave.length : Int)), (41, .slice p9884 x9882.length c9885), (42, .int .i64 r9899)] (fun w_ => by kernel_rfl) (by kernel_rfl) ?_
  obtain ⟨y9965, hy9965, hm⟩ := gx_bind hm
  obtain ⟨g9966, hg9967⟩ := gxIdx_fst hz9959 hy9965
  refine Z_val (elemP p9884 (r9899.toNat * 3)) (by kernel_rfl) (fun w_ M_ => (E_index (E := deepBalloon.E) _ _ _ x9882.length c9885 .i64 r9899 3 (y := (y9965, g9966)) rfl (by kernel_rfl) (by kernel_rfl) (by kernel_rfl) (hr9960.mem0 M_) (len_fst hz9959) hg9967)) ?_
  refine Z_val (elemP p9884 (r9899.toNat * 3 + 1)) (by kernel_rfl) (fun w_ M_ => (E_fieldE (E := deepBalloon.E) _ _ 1 (r9899.toNat * 3) 1 rfl (by kernel_rfl) (by kernel_rfl) (hr9960.mem0 M_) hg9967)) ?_
  refine Z_val (.int .i64 y9965.Goal) (by kernel_rfl) (fun w_ M_ => (E_loadE (E := deepBalloon.E) _ _ false 1 r9899 1 (r9899.toNat * 3 + 1) (y9965, g9966) (.int .i64 y9965.Goal) rfl (by kernel_rfl) (by kernel_rfl) (by kernel_rfl) (hr9960.mem0 M_) hg9967 rfl)) ?_
  refine Z_runs [.bool (decide ((y9957.Gave.length : Int) > y9965.Goal))] [(10, .int .i64 r9899), (11, .slice p9939 r9937.length c9940), (12, .slice p9949 r9947.length c9950), (13, .int .i64 0), (14, .int .i64 1), (46, .bool (decide ((y9957.Gave.length : Int) > y9965.Goal)))] (fun w_ => by kernel_rfl) (by kernel_rfl) ?_
  refine Z_end fun w9969 M9970 => ?_
  refine N_then ?_
  obtain ⟨o9972, ho9973, hm9974⟩ := gx_bind hm
  refine G_meet (fun a w' => Mem [] w w' [sg9941, sg9951, sg9952] ∧ Sat Try.f36.ntmps [(10, .int .i64 r9899), (11, .slice p9939 r9937.length c9940), (12, .slice p9949 r9947.length c9950), (13, .int .i64 0), (14, .int .i64 o9972)] a) ?_ ?_
  · have hm := ho9973
    rcases gx_bif hm with ⟨hc9975, hm⟩ | ⟨hc9975, hm⟩
    · refine G_cond_t (b := (decide ((y9957.Gave.length : Int) > y9965.Goal))) hc9975 (by kernel_rfl) ?_
      refine G_region ?_
      refine W_run 1 [(10, .int .i64 r9899), (11, .slice p9939 r9937.length c9940), (12, .slice p9949 r9947.length c9950), (13, .int .i64 0), (14, .int .i64 (-1))] w9969 (by kernel_rfl) ?_
      refine W_nil ?_
      obtain rfl := Option.some.inj hm
      exact N_meet fun a ha => ⟨M9970.pick [0, 1, 2] (by kernel_rfl), ha.sub (by kernel_rfl)⟩
    refine G_cond_f (b := (decide ((y9957.Gave.length : Int) > y9965.Goal))) hc9975 (by kernel_rfl) ?_
    refine G_skip ?_
    obtain rfl := Option.some.inj hm
    exact N_meet fun a ha => ⟨M9970.pick [0, 1, 2] (by kernel_rfl), ha.sub (by kernel_rfl)⟩
  intro a9978 w9976 ⟨M9977, hS9979⟩
  refine N_use hS9979 ?_
  have hm := hm9974
  refine N_then ?_
  obtain ⟨out10030, hw10031, hmo10032⟩ := gx_bind hm
  refine G_meet (fun a w' => False) ?_ ?_
  · refine G_block ?_
    refine G_while (σ := List Int × List Balloon × Int) (ρ := (List Int) × (List Balloon) × Int × Bool) (fun s10023 a w' => ∃ (p10033 : Option Addr), ∃ (c10034 : Nat), ∃ (sg10035 : Seg), ∃ (p10038 : Option Addr), ∃ (c10039 : Nat), ∃ (sg10040 : Seg), ∃ (sg10041 : Seg), ownS Gx.encI s10023.1 p10033 c10034 sg10035 ∧ ownD deepBalloon s10023.2.1 p10038 c10039 sg10040 sg10041 ∧ Mem [] w w' [sg10035, sg10040, sg10041] ∧ Sat Try.f36.ntmps [(10, .int .i64 r9899), (11, .slice p10033 s10023.1.length c10034), (12, .slice p10038 s10023.2.1.length c10039), (13, .int .i64 s10023.2.2), (14, .int .i64 o9972)] a) hw10031 (fun a ha => ⟨p9939, c9940, sg9941, p9949, c9950, sg9951, sg9952, ho9942, ho9953, M9977.pick [0, 1, 2] (by kernel_rfl), ha.sub (by kernel_rfl)⟩) ?_
    clear hm
    intro s10023 x10024 hm hout10025 a10026 w10027 ⟨p10033, c10034, sg10035, p10038, c10039, sg10040, sg10041, ho10036, ho10042, M10028, hS10029⟩
    refine G_use hS10029 ?_
    refine G_block ?_
    refine G_seq ?_
    refine G_region ?_
    refine W_run 4 [(10, .int .i64 r9899), (11, .slice p10033 s10023.1.length c10034), (12, .slice p10038 s10023.2.1.length c10039), (13, .int .i64 s10023.2.2), (14, .int .i64 o9972), (48, .slice p10033 s10023.1.length c10034), (49, .slice p10038 s10023.2.1.length c10039), (50, .int .i64 r9899), (51, .int .i64 o9972)] w10027 (by kernel_rfl) ?_
    obtain ⟨r10044, hr10044, hm⟩ := gx_bind hm
    refine W_call 68 #[.slice p10033 s10023.1.length c10034, .slice p10038 s10023.2.1.length c10039, .int .i64 r9899, .int .i64 o9972] (by kernel_rfl) (by kernel_rfl) ?_
    refine (c_s_l18Step w10027 s10023.1 p10033 c10034 (ho10036.rd M10028 0 (by kernel_rfl)) s10023.2.1 p10038 c10039 (ho10042.rd M10028 1 (by kernel_rfl) 2 (by kernel_rfl)) r9899 o9972 hr10044).mono ?_
    rintro e_ w10056 ⟨p10046, c10047, sg10048, p10051, c10052, sg10053, sg10054, rfl, ho10049, ho10055, K10057⟩
    have M10058 := M10028.call K10057
    refine ⟨_, rfl, ?_⟩
    refine W_run 7 [(10, .int .i64 r9899), (11, .slice p10033 s10023.1.length c10034), (12, .slice p10038 s10023.2.1.length c10039), (13, .int .i64 s10023.2.2), (14, .int .i64 o9972), (15, .slice p10046 r10044.1.length c10047), (16, .slice p10051 r10044.2.1.length c10052), (17, .bool r10044.2.2)] w10056 (by kernel_rfl) ?_
    refine W_nil ?_
    refine N_then ?_
    refine G_seq ?_
    refine G_seq ?_
    refine G_region ?_
    refine W_run 2 [(10, .int .i64 r9899), (11, .slice p10033 s10023.1.length c10034), (12, .slice p10038 s10023.2.1.length c10039), (13, .int .i64 s10023.2.2), (14, .int .i64 o9972), (15, .slice p10046 r10044.1.length c10047), (16, .slice p10051 r10044.2.1.length c10052), (57, .bool (!r10044.2.2))] w10056 (by kernel_rfl) ?_
    refine W_nil ?_
    refine N_then ?_
    rcases gx_bif hm with ⟨hc10059, hm⟩ | ⟨hc10059, hm⟩
    · refine G_cond_t (b := (!r10044.2.2)) hc10059 (by kernel_rfl) ?_
      refine G_seq ?_
      refine G_region ?_
      refine W_run 7 [(6, .slice p10033 s10023.1.length c10034), (7, .slice p10038 s10023.2.1.length c10039), (8, .int .i64 s10023.2.2), (9, .bool true)] w10056 (by kernel_rfl) ?_
      refine W_nil ?_
      refine N_then ?_
      refine G_ret ?_
      refine N_then_ret ?_
      refine N_block_ret ?_
      refine N_then_ret ?_
      obtain rfl := Option.some.inj hm
      obtain rfl := hout10025 _ rfl
      have hm := hmo10032
      refine N_block_ret ?_
      refine N_meet_ret ?_
      obtain rfl := Option.some.inj hm
      refine N_ret [.slice p10033 s10023.1.length c10034, .slice p10038 s10023.2.1.length c10039, .int .i64 s10023.2.2, .bool true] (RVs_cons (RV_tmp (by kernel_rfl)) (RVs_cons (RV_tmp (by kernel_rfl)) (RVs_cons (RV_tmp (by kernel_rfl)) (RVs_cons (RV_tmp (by kernel_rfl)) RVs_nil)))) ?_
      exact ⟨p10033, c10034, sg10035, p10038, c10039, sg10040, sg10041, rfl, ho10036, ho10042, M10058.pick [0, 1, 2] (by kernel_rfl)⟩
    refine G_cond_f (b := (!r10044.2.2)) hc10059 (by kernel_rfl) ?_
    refine G_skip ?_
    refine N_then ?_
    refine G_seq ?_
    refine G_region ?_
    refine W_run 2 [(10, .int .i64 r9899), (11, .slice p10046 r10044.1.length c10047), (13, .int .i64 s10023.2.2), (14, .int .i64 o9972), (16, .slice p10051 r10044.2.1.length c10052)] w10056 (by kernel_rfl) ?_
    refine W_nil ?_
    refine N_then ?_
    refine G_seq ?_
    refine G_region ?_
    refine W_run 2 [(10, .int .i64 r9899), (11, .slice p10046 r10044.1.length c10047), (12, .slice p10051 r10044.2.1.length c10052), (13, .int .i64 s10023.2.2), (14, .int .i64 o9972)] w10056 (by kernel_rfl) ?_
    refine W_nil ?_
    refine N_then ?_
    refine G_region ?_
    refine W_run 3 [(10, .int .i64 r9899), (11, .slice p10046 r10044.1.length c10047), (12, .slice p10051 r10044.2.1.length c10052), (13, .int .i64 (w64 (s10023.2.2 + 1))), (14, .int .i64 o9972)] w10056 (by kernel_rfl) ?_
    refine W_nil ?_
    refine N_block ?_
    obtain rfl := Option.some.inj hm
    exact N_loop fun a ha => ⟨_, rfl, p10046, c10047, sg10048, p10051, c10052, sg10053, sg10054, (ho10049 (by simpa using hc10059)), (ho10055 (by simpa using hc10059)), M10058.pick [3, 4, 5] (by kernel_rfl), ha.sub (by kernel_rfl)⟩
  intro _ _ h
  exact h.elim
theorem c_i_SettleGuest (w : World) (x10098 : List Int) (p10100 : Option Addr) (c10101 : Nat) (h10102 : rdS Gx.encI w x10098 p10100 c10101) (x10103 : List Balloon) (p10105 : Option Addr) (c10106 : Nat) (h10107 : rdD deepBalloon w x10103 p10105 c10106) (x10108 : Int) {r : (List Int) × (List Balloon) × Int × Bool} (hm : M.i_SettleGuest x10098 x10103 x10108 = some r) :
    Calls Try.prog 37 #[.slice p10100 x10098.length c10101, .slice p10105 x10103.length c10106, .int .i64 x10108] w fun e w' => ∃ (p10110 : Option Addr) (c10111 : Nat) (sg10112 : Seg), ∃ (p10114 : Option Addr) (c10115 : Nat) (sg10116 : Seg) (sg10117 : Seg), e = .returned (.tuple #[.slice p10110 r.1.length c10111, .slice p10114 r.2.1.length c10115, .int .i64 r.2.2.1, .bool r.2.2.2]) ∧ ownS Gx.encI r.1 p10110 c10111 sg10112 ∧ ownD deepBalloon r.2.1 p10114 c10115 sg10116 sg10117 ∧ Mem [] w w' [sg10112, sg10116, sg10117] := by
  unfold M.i_SettleGuest at hm
  refine C_enter Try.func37 rfl (by kernel_rfl) ?_
  have M0 := Mem.refl [] w
  refine G_seq ?_
  refine G_region ?_
  refine W_run 4 [(0, .slice p10100 x10098.length c10101), (1, .slice p10105 x10103.length c10106), (2, .int .i64 x10108)] w (by kernel_rfl) ?_
  refine W_nil ?_
  refine N_then ?_
  refine G_seq ?_
  refine G_region ?_
  refine W_run 3 [(0, .slice p10100 x10098.length c10101), (1, .slice p10105 x10103.length c10106), (16, .slice p10100 x10098.length c10101), (17, .slice p10105 x10103.length c10106), (18, .int .i64 x10108)] w (by kernel_rfl) ?_
  obtain ⟨r10120, hr10120, hm⟩ := gx_bind hm
  refine W_call 59 #[.slice p10100 x10098.length c10101, .slice p10105 x10103.length c10106, .int .i64 x10108] (by kernel_rfl) (by kernel_rfl) ?_
  refine (c_i_balloonOf w x10098 p10100 c10101 (h10102.mem0 M0) x10103 p10105 c10106 (h10107.mem0 M0) x10108 hr10120).mono ?_
  rintro e_ w10121 ⟨rfl, K10122⟩
  have M10123 := M0.call0 K10122
  refine ⟨_, rfl, ?_⟩
  refine W_run 5 [(0, .slice p10100 x10098.length c10101), (1, .slice p10105 x10103.length c10106), (10, .int .i64 r10120.1), (11, .bool r10120.2)] w10121 (by kernel_rfl) ?_
  refine W_nil ?_
  refine N_then ?_
  refine G_seq ?_
  refine G_seq ?_
  refine G_region ?_
  refine W_run 2 [(0, .slice p10100 x10098.length c10101), (1, .slice p10105 x10103.length c10106), (10, .int .i64 r10120.1), (23, .bool (!r10120.2))] w10121 (by kernel_rfl) ?_
  refine W_nil ?_
  refine N_then ?_
  rcases gx_bif hm with ⟨hc10124, hm⟩ | ⟨hc10124, hm⟩
  · refine G_cond_t (b := (!r10120.2)) hc10124 (by kernel_rfl) ?_
    refine G_seq ?_
    refine G_region ?_
    refine W_run 4 [(6, .slice none 0 0), (7, .slice none 0 0), (8, .int .i64 0), (9, .bool false)] w10121 (by kernel_rfl) ?_
    refine W_nil ?_
    refine N_then ?_
    refine G_ret ?_
    refine N_then_ret ?_
    obtain rfl := Option.some.inj hm
    refine N_ret [.slice none 0 0, .slice none 0 0, .int .i64 0, .bool false] (RVs_cons (RV_tmp (by kernel_rfl)) (RVs_cons (RV_tmp (by kernel_rfl)) (RVs_cons (RV_tmp (by kernel_rfl)) (RVs_cons (RV_tmp (by kernel_rfl)) RVs_nil)))) ?_
    exact ⟨none, 0, [], none, 0, [], [], rfl, ownS_nil, ownD_nil, M10123.pick [100000, 100001, 100002] (by kernel_rfl)⟩
  refine G_cond_f (b := (!r10120.2)) hc10124 (by kernel_rfl) ?_
  refine G_skip ?_
  refine N_then ?_
  refine G_seq ?_
  refine G_region ?_
  refine W_run 1 [(1, .slice p10105 x10103.length c10106), (10, .int .i64 r10120.1), (24, .slice p10100 x10098.length c10101)] w10121 (by kernel_rfl) ?_
  obtain ⟨r10127, hr10127, hm⟩ := gx_bind hm
  refine W_call 62 #[.slice p10100 x10098.length c10101] (by kernel_rfl) (by kernel_rfl) ?_
  refine (c_i_copyInts w10121 x10098 p10100 c10101 (h10102.mem0 M10123) hr10127).mono ?_
  rintro e_ w10133 ⟨p10129, c10130, sg10131, rfl, ho10132, K10134⟩
  have M10135 := M10123.call K10134
  refine ⟨_, rfl, ?_⟩
  refine W_run 1 [(10, .int .i64 r10120.1), (25, .slice p10129 r10127.length c10130), (26, .slice p10105 x10103.length c10106)] w10133 (by kernel_rfl) ?_
  obtain ⟨r10136, hr10136, hm⟩ := gx_bind hm
  refine W_call 60 #[.slice p10105 x10103.length c10106] (by kernel_rfl) (by kernel_rfl) ?_
  refine (c_i_newBalloons w10133 x10103 p10105 c10106 (h10107.mem0 M10135) hr10136).mono ?_
  rintro e_ w10143 ⟨p10138, c10139, sg10140, sg10141, rfl, ho10142, K10144⟩
  have M10145 := M10135.call K10144
  refine ⟨_, rfl, ?_⟩
  refine W_run 3 [(10, .int .i64 r10120.1), (12, .slice p10129 r10127.length c10130), (13, .slice p10138 r10136.length c10139), (14, .int .i64 0)] w10143 (by kernel_rfl) ?_
  refine W_nil ?_
  refine N_then ?_
  refine G_seq ?_
  obtain ⟨out10332, hw10333, hmo10334⟩ := gx_bind hm
  refine G_meet (fun a w' => ∃ (sg10341 : Seg), ∃ (sg10343 : Seg), ∃ (sg10344 : Seg), ownS Gx.encI out10332.2.1 p10129 c10130 sg10341 ∧ ownD deepBalloon out10332.2.2 p10138 c10139 sg10343 sg10344 ∧ Mem [] w w' [sg10341, sg10343, sg10344] ∧ Sat Try.f37.ntmps [(12, .slice p10129 out10332.2.1.length c10130), (13, .slice p10138 out10332.2.2.length c10139), (14, .int .i64 out10332.1)] a) ?_ ?_
  · refine G_block ?_
    refine G_while (σ := Int × List Int × List Balloon) (ρ := Int × List Int × List Balloon) (fun s10325 a w' => ∃ (sg10335 : Seg), ∃ (sg10337 : Seg), ∃ (sg10338 : Seg), ownS Gx.encI s10325.2.1 p10129 c10130 sg10335 ∧ ownD deepBalloon s10325.2.2 p10138 c10139 sg10337 sg10338 ∧ Mem [] w w' [sg10335, sg10337, sg10338] ∧ Sat Try.f37.ntmps [(10, .int .i64 r10120.1), (12, .slice p10129 s10325.2.1.length c10130), (13, .slice p10138 s10325.2.2.length c10139), (14, .int .i64 s10325.1)] a) hw10333 (fun a ha => ⟨sg10131, sg10140, sg10141, ho10132, ho10142, M10145.pick [0, 1, 2] (by kernel_rfl), ha.sub (by kernel_rfl)⟩) ?_
    clear hm
    intro s10325 x10326 hm hout10327 a10328 w10329 ⟨sg10335, sg10337, sg10338, ho10336, ho10339, M10330, hS10331⟩
    refine G_use hS10331 ?_
    refine G_seq ?_
    refine G_seq ?_
    obtain ⟨o10383, ho10384, hm10385⟩ := gx_bind hm
    refine G_meet (fun a w' => ∃ (sg10386 : Seg), ∃ (sg10388 : Seg), ∃ (sg10389 : Seg), ownS Gx.encI o10383.2.1 p10129 c10130 sg10386 ∧ ownD deepBalloon o10383.2.2 p10138 c10139 sg10388 sg10389 ∧ Mem [] w w' [sg10386, sg10388, sg10389] ∧ Sat Try.f37.ntmps [(10, .int .i64 r10120.1), (12, .slice p10129 o10383.2.1.length c10130), (13, .slice p10138 o10383.2.2.length c10139), (14, .int .i64 s10325.1), (39, .bool o10383.1)] a) ?_ ?_
    · have hm := ho10384
      refine G_region ?_
      refine W_run 3 [(10, .int .i64 r10120.1), (12, .slice p10129 s10325.2.1.length c10130), (13, .slice p10138 s10325.2.2.length c10139), (14, .int .i64 s10325.1), (28, .slice p10129 s10325.2.1.length c10130), (29, .slice p10138 s10325.2.2.length c10139), (30, .int .i64 r10120.1)] w10329 (by kernel_rfl) ?_
      obtain ⟨y10391, hy10391, hm⟩ := gx_bind hm
      obtain ⟨zs10392, hz10393, hr10394, hi10395⟩ := id ho10339
      obtain ⟨g10396, hg10397⟩ := gxIdx_fst hz10393 hy10391
      refine W_val (elemP p10138 (r10120.1.toNat * 3)) w10329 (by kernel_rfl) (E_index (E := deepBalloon.E) _ _ _ s10325.2.2.length c10139 .i64 r10120.1 3 (y := (y10391, g10396)) rfl (by kernel_rfl) (by kernel_rfl) (by kernel_rfl) (hr10394.rd M10330 1 (by kernel_rfl)) (len_fst hz10393) hg10397) ?_
      obtain ⟨r10398, hr10398, hm⟩ := gx_bind hm
      refine W_call 70 #[.slice p10129 s10325.2.1.length c10130, elemP p10138 (r10120.1.toNat * 3)] (by kernel_rfl) (by kernel_rfl) ?_
      refine (c_i_inflate__e1 w10329 s10325.2.1 p10129 c10130 sg10335 ho10336 s10325.2.2 p10138 c10139 sg10337 sg10338 ho10339 r10120.1 (M10330.hasPick [0, 1, 2]) (M10330.nodupPick [0, 1, 2] (by kernel_rfl)) hr10398).mono ?_
      rintro e_ w10406 ⟨sg10399, sg10402, sg10403, rfl, ho10400, hl10401, ho10404, hl10405, K10407⟩
      have M10408 := M10330.callF' [0, 1, 2] [] (by kernel_rfl) K10407
      refine ⟨_, rfl, ?_⟩
      refine W_conv 12 (.slice p10129 s10325.2.1.length c10130) (.slice p10129 r10398.2.1.length c10130) (by kernel_rfl) (by first | rw [hl10401, hl10405] | rw [hl10401] | rw [hl10405]) ?_
      refine W_conv 13 (.slice p10138 s10325.2.2.length c10139) (.slice p10138 r10398.2.2.length c10139) (by kernel_rfl) (by first | rw [hl10401, hl10405] | rw [hl10401] | rw [hl10405]) ?_
      refine W_conv 28 (.slice p10129 s10325.2.1.length c10130) (.slice p10129 r10398.2.1.length c10130) (by kernel_rfl) (by first | rw [hl10401, hl10405] | rw [hl10401] | rw [hl10405]) ?_
      refine W_conv 29 (.slice p10138 s10325.2.2.length c10139) (.slice p10138 r10398.2.2.length c10139) (by kernel_rfl) (by first | rw [hl10401, hl10405] | rw [hl10401] | rw [hl10405]) ?_
      refine W_run 1 [(10, .int .i64 r10120.1), (12, .slice p10129 r10398.2.1.length c10130), (13, .slice p10138 r10398.2.2.length c10139), (14, .int .i64 s10325.1), (33, .bool r10398.1)] w10406 (by kernel_rfl) ?_
      rcases gx_bif hm with ⟨hc10409, hm⟩ | ⟨hc10409, hm⟩
      · refine W_known 33 true (by kernel_rfl) hc10409 ?_
        refine W_run 6 [(10, .int .i64 r10120.1), (12, .slice p10129 r10398.2.1.length c10130), (13, .slice p10138 r10398.2.2.length c10139), (14, .int .i64 s10325.1), (39, .bool true)] w10406 (by kernel_rfl) ?_
        refine W_nil ?_
        obtain rfl := Option.some.inj hm
        exact N_meet fun a ha => ⟨sg10399, sg10402, sg10403, ho10400, ho10404, M10408.pick [0, 1, 2] (by kernel_rfl), ha.sub (by kernel_rfl)⟩
      refine W_known 33 false (by kernel_rfl) hc10409 ?_
      refine W_run 3 [(10, .int .i64 r10120.1), (12, .slice p10129 r10398.2.1.length c10130), (13, .slice p10138 r10398.2.2.length c10139), (14, .int .i64 s10325.1), (33, .bool false), (34, .slice p10129 r10398.2.1.length c10130), (35, .slice p10138 r10398.2.2.length c10139), (36, .int .i64 r10120.1)] w10406 (by kernel_rfl) ?_
      obtain ⟨y10410, hy10410, hm⟩ := gx_bind hm
      obtain ⟨zs10411, hz10412, hr10413, hi10414⟩ := id ho10404
      obtain ⟨g10415, hg10416⟩ := gxIdx_fst hz10412 hy10410
      refine W_val (elemP p10138 (r10120.1.toNat * 3)) w10406 (by kernel_rfl) (E_index (E := deepBalloon.E) _ _ _ r10398.2.2.length c10139 .i64 r10120.1 3 (y := (y10410, g10415)) rfl (by kernel_rfl) (by kernel_rfl) (by kernel_rfl) (hr10413.rd M10408 1 (by kernel_rfl)) (len_fst hz10412) hg10416) ?_
      obtain ⟨r10417, hr10417, hm⟩ := gx_bind hm
      refine W_call 69 #[.slice p10129 r10398.2.1.length c10130, elemP p10138 (r10120.1.toNat * 3)] (by kernel_rfl) (by kernel_rfl) ?_
      refine (c_i_deflate__e1 w10406 r10398.2.1 p10129 c10130 sg10399 ho10400 r10398.2.2 p10138 c10139 sg10402 sg10403 ho10404 r10120.1 (M10408.hasPick [0, 1, 2]) (M10408.nodupPick [0, 1, 2] (by kernel_rfl)) hr10417).mono ?_
      rintro e_ w10425 ⟨sg10418, sg10421, sg10422, rfl, ho10419, hl10420, ho10423, hl10424, K10426⟩
      have M10427 := M10408.callF' [0, 1, 2] [] (by kernel_rfl) K10426
      refine ⟨_, rfl, ?_⟩
      refine W_conv 12 (.slice p10129 r10398.2.1.length c10130) (.slice p10129 r10417.2.1.length c10130) (by kernel_rfl) (by first | rw [hl10420, hl10424] | rw [hl10420] | rw [hl10424]) ?_
      refine W_conv 13 (.slice p10138 r10398.2.2.length c10139) (.slice p10138 r10417.2.2.length c10139) (by kernel_rfl) (by first | rw [hl10420, hl10424] | rw [hl10420] | rw [hl10424]) ?_
      refine W_conv 34 (.slice p10129 r10398.2.1.length c10130) (.slice p10129 r10417.2.1.length c10130) (by kernel_rfl) (by first | rw [hl10420, hl10424] | rw [hl10420] | rw [hl10424]) ?_
      refine W_conv 35 (.slice p10138 r10398.2.2.length c10139) (.slice p10138 r10417.2.2.length c10139) (by kernel_rfl) (by first | rw [hl10420, hl10424] | rw [hl10420] | rw [hl10424]) ?_
      refine W_run 1 [(10, .int .i64 r10120.1), (12, .slice p10129 r10417.2.1.length c10130), (13, .slice p10138 r10417.2.2.length c10139), (14, .int .i64 s10325.1), (39, .bool r10417.1)] w10425 (by kernel_rfl) ?_
      refine W_nil ?_
      obtain rfl := Option.some.inj hm
      exact N_meet fun a ha => ⟨sg10418, sg10421, sg10422, ho10419, ho10423, M10427.pick [0, 1, 2] (by kernel_rfl), ha.sub (by kernel_rfl)⟩
    intro a10430 w10428 ⟨sg10386, sg10388, sg10389, ho10387, ho10390, M10429, hS10431⟩
    refine N_use hS10431 ?_
    have hm := hm10385
    refine N_then ?_
    rcases gx_bif hm with ⟨hc10432, hm⟩ | ⟨hc10432, hm⟩
    · refine G_cond_t (b := o10383.1) hc10432 (by kernel_rfl) ?_
      refine G_skip ?_
      refine N_then ?_
      refine G_block ?_
      refine G_region ?_
      refine W_run 3 [(10, .int .i64 r10120.1), (12, .slice p10129 o10383.2.1.length c10130), (13, .slice p10138 o10383.2.2.length c10139), (14, .int .i64 (w64 (s10325.1 + 1)))] w10428 (by kernel_rfl) ?_
      refine W_nil ?_
      refine N_block ?_
      obtain rfl := Option.some.inj hm
      exact N_loop fun a ha => ⟨_, rfl, sg10386, sg10388, sg10389, ho10387, ho10390, M10429.pick [0, 1, 2] (by kernel_rfl), ha.sub (by kernel_rfl)⟩
    refine G_cond_f (b := o10383.1) hc10432 (by kernel_rfl) ?_
    refine G_exit ?_
    refine N_then_exit ?_
    refine N_then_exit ?_
    refine N_block_eq ?_
    obtain rfl := Option.some.inj hm
    obtain rfl := hout10327 _ rfl
    exact N_meet fun a ha => ⟨sg10386, sg10388, sg10389, ho10387, ho10390, M10429.pick [0, 1, 2] (by kernel_rfl), ha.sub (by kernel_rfl)⟩
  intro a10433 w10434 ⟨sg10341, sg10343, sg10344, ho10342, ho10345, M10435, hS10436⟩
  refine N_use hS10436 ?_
  have hm := hmo10334
  refine N_then ?_
  refine G_seq ?_
  refine G_region ?_
  refine W_run 7 [(6, .slice p10129 out10332.2.1.length c10130), (7, .slice p10138 out10332.2.2.length c10139), (8, .int .i64 out10332.1), (9, .bool true)] w10434 (by kernel_rfl) ?_
  refine W_nil ?_
  refine N_then ?_
  refine G_ret ?_
  obtain rfl := Option.some.inj hm
  refine N_ret [.slice p10129 out10332.2.1.length c10130, .slice p10138 out10332.2.2.length c10139, .int .i64 out10332.1, .bool true] (RVs_cons (RV_tmp (by kernel_rfl)) (RVs_cons (RV_tmp (by kernel_rfl)) (RVs_cons (RV_tmp (by kernel_rfl)) (RVs_cons (RV_tmp (by kernel_rfl)) RVs_nil)))) ?_
  exact ⟨p10129, c10130, sg10341, p10138, c10139, sg10343, sg10344, rfl, ho10342, ho10345, M10435.pick [0, 1, 2] (by kernel_rfl)⟩
theorem c_l_FnExactSettleGuest (w : World) (x9841 : List Int) (p9843 : Option Addr) (c9844 : Nat) (h9845 : rdS Gx.encI w x9841 p9843 c9844) (x9846 : List Balloon) (p9848 : Option Addr) (c9849 : Nat) (h9850 : rdD deepBalloon w x9846 p9848 c9849) (x9851 : Int) {r : Bool} (hm : M.l_FnExactSettleGuest x9841 x9846 x9851 = some r) :
    Calls Try.prog 10 #[.slice p9843 x9841.length c9844, .slice p9848 x9846.length c9849, .int .i64 x9851] w fun e w' => e = .returned (.bool r) ∧ Mem [] w w' [] := by
  unfold M.l_FnExactSettleGuest at hm
  refine C_enter Try.func10 rfl (by kernel_rfl) ?_
  have M0 := Mem.refl [] w
  refine G_seq ?_
  refine G_region ?_
  refine W_run 1 [(0, .slice p9843 x9841.length c9844), (1, .slice p9848 x9846.length c9849), (2, .int .i64 x9851)] w (by kernel_rfl) ?_
  refine W_nil ?_
  refine N_then ?_
  refine G_seq ?_
  refine G_seq ?_
  refine G_region ?_
  refine W_run 3 [(0, .slice p9843 x9841.length c9844), (1, .slice p9848 x9846.length c9849), (2, .int .i64 x9851), (27, .bool (decide ((x9841.length : Int) > 1048576)))] w (by kernel_rfl) ?_
  refine W_nil ?_
  refine N_then ?_
  rcases gx_bif hm with ⟨hc9852, hm⟩ | ⟨hc9852, hm⟩
  · refine G_cond_t (b := (decide ((x9841.length : Int) > 1048576))) hc9852 (by kernel_rfl) ?_
    refine G_seq ?_
    refine G_region ?_
    refine W_run 1 [(6, .bool true)] w (by kernel_rfl) ?_
    refine W_nil ?_
    refine N_then ?_
    refine G_ret ?_
    refine N_then_ret ?_
    obtain rfl := Option.some.inj hm
    refine N_ret [.bool true] (RVs_cons (RV_tmp (by kernel_rfl)) RVs_nil) ?_
    exact ⟨rfl, M0.pick [] (by kernel_rfl)⟩
  refine G_cond_f (b := (decide ((x9841.length : Int) > 1048576))) hc9852 (by kernel_rfl) ?_
  refine G_skip ?_
  refine N_then ?_
  refine G_seq ?_
  refine G_region ?_
  refine W_run 1 [(0, .slice p9843 x9841.length c9844), (1, .slice p9848 x9846.length c9849), (2, .int .i64 x9851), (7, .int .i64 1048576)] w (by kernel_rfl) ?_
  refine W_nil ?_
  refine N_then ?_
  refine G_seq ?_
  refine G_region ?_
  refine W_run 2 [(0, .slice p9843 x9841.length c9844), (1, .slice p9848 x9846.length c9849), (2, .int .i64 x9851), (7, .int .i64 1048576), (28, .slice p9848 x9846.length c9849), (29, .int .i64 1048576)] w (by kernel_rfl) ?_
  obtain ⟨r9853, hr9853, hm⟩ := gx_bind hm
  refine W_call 13 #[.slice p9848 x9846.length c9849, .int .i64 1048576] (by kernel_rfl) (by kernel_rfl) ?_
  refine (c_l_szBalloonS w x9846 p9848 c9849 (h9850.mem0 M0) 1048576 hr9853).mono ?_
  rintro e_ w9854 ⟨rfl, K9855⟩
  have M9856 := M0.call0 K9855
  refine ⟨_, rfl, ?_⟩
  refine W_run 1 [(0, .slice p9843 x9841.length c9844), (1, .slice p9848 x9846.length c9849), (2, .int .i64 x9851), (7, .int .i64 r9853)] w9854 (by kernel_rfl) ?_
  refine W_nil ?_
  refine N_then ?_
  refine G_seq ?_
  refine G_seq ?_
  refine G_region ?_
  refine W_run 2 [(0, .slice p9843 x9841.length c9844), (1, .slice p9848 x9846.length c9849), (2, .int .i64 x9851), (32, .bool (decide (r9853 < 0)))] w9854 (by kernel_rfl) ?_
  refine W_nil ?_
  refine N_then ?_
  rcases gx_bif hm with ⟨hc9857, hm⟩ | ⟨hc9857, hm⟩
  · refine G_cond_t (b := (decide (r9853 < 0))) hc9857 (by kernel_rfl) ?_
    refine G_seq ?_
    refine G_region ?_
    refine W_run 1 [(6, .bool true)] w9854 (by kernel_rfl) ?_
    refine W_nil ?_
    refine N_then ?_
    refine G_ret ?_
    refine N_then_ret ?_
    obtain rfl := Option.some.inj hm
    refine N_ret [.bool true] (RVs_cons (RV_tmp (by kernel_rfl)) RVs_nil) ?_
    exact ⟨rfl, M9856.pick [] (by kernel_rfl)⟩
  refine G_cond_f (b := (decide (r9853 < 0))) hc9857 (by kernel_rfl) ?_
  refine G_skip ?_
  refine N_then ?_
  refine G_seq ?_
  refine G_region ?_
  refine W_run 1 [(0, .slice p9843 x9841.length c9844), (1, .slice p9848 x9846.length c9849), (2, .int .i64 x9851), (34, .slice p9843 x9841.length c9844)] w9854 (by kernel_rfl) ?_
  obtain ⟨r9858, hr9858, hm⟩ := gx_bind hm
  refine W_call 15 #[.slice p9843 x9841.length c9844] (by kernel_rfl) (by kernel_rfl) ?_
  refine (c_l_toIntS w9854 x9841 p9843 c9844 (h9845.mem0 M9856) hr9858).mono ?_
  rintro e_ w9864 ⟨p9860, c9861, sg9862, rfl, ho9863, K9865⟩
  have M9866 := M9856.call K9865
  refine ⟨_, rfl, ?_⟩
  refine W_run 1 [(0, .slice p9843 x9841.length c9844), (1, .slice p9848 x9846.length c9849), (2, .int .i64 x9851), (35, .slice p9860 r9858.length c9861), (36, .slice p9848 x9846.length c9849)] w9864 (by kernel_rfl) ?_
  obtain ⟨r9867, hr9867, hm⟩ := gx_bind hm
  refine W_call 16 #[.slice p9848 x9846.length c9849] (by kernel_rfl) (by kernel_rfl) ?_
  refine (c_l_toBalloonS w9864 x9846 p9848 c9849 (h9850.mem0 M9866) hr9867).mono ?_
  rintro e_ w9874 ⟨p9869, c9870, sg9871, sg9872, rfl, ho9873, K9875⟩
  have M9876 := M9866.call K9875
  refine ⟨_, rfl, ?_⟩
  refine W_run 1 [(0, .slice p9843 x9841.length c9844), (1, .slice p9848 x9846.length c9849), (2, .int .i64 x9851), (35, .slice p9860 r9858.length c9861), (37, .slice p9869 r9867.length c9870), (38, .int .i64 x9851)] w9874 (by kernel_rfl) ?_
  obtain ⟨r10064, hr10064, hm⟩ := gx_bind hm
  refine W_call 36 #[.slice p9860 r9858.length c9861, .slice p9869 r9867.length c9870, .int .i64 x9851] (by kernel_rfl) (by kernel_rfl) ?_
  refine (c_s_SettleGuest w9874 r9858 p9860 c9861 (ho9863.rd M9876 0 (by kernel_rfl)) r9867 p9869 c9870 (ho9873.rd M9876 1 (by kernel_rfl) 2 (by kernel_rfl)) x9851 hr10064).mono ?_
  rintro e_ w10076 ⟨p10066, c10067, sg10068, p10071, c10072, sg10073, sg10074, rfl, ho10069, ho10075, K10077⟩
  have M10078 := M9876.call K10077
  refine ⟨_, rfl, ?_⟩
  refine W_run 9 [(0, .slice p9843 x9841.length c9844), (1, .slice p9848 x9846.length c9849), (2, .int .i64 x9851), (8, .slice p10066 r10064.1.length c10067), (9, .slice p10071 r10064.2.1.length c10072), (10, .int .i64 r10064.2.2.1), (11, .bool r10064.2.2.2)] w10076 (by kernel_rfl) ?_
  refine W_nil ?_
  refine N_then ?_
  refine G_seq ?_
  refine G_region ?_
  refine W_run 1 [(0, .slice p9843 x9841.length c9844), (1, .slice p9848 x9846.length c9849), (2, .int .i64 x9851), (8, .slice p10066 r10064.1.length c10067), (9, .slice p10071 r10064.2.1.length c10072), (10, .int .i64 r10064.2.2.1), (11, .bool r10064.2.2.2), (44, .slice p9843 x9841.length c9844)] w10076 (by kernel_rfl) ?_
  obtain ⟨r10079, hr10079, hm⟩ := gx_bind hm
  refine W_call 15 #[.slice p9843 x9841.length c9844] (by kernel_rfl) (by kernel_rfl) ?_
  refine (c_l_toIntS w10076 x9841 p9843 c9844 (h9845.mem0 M10078) hr10079).mono ?_
  rintro e_ w10085 ⟨p10081, c10082, sg10083, rfl, ho10084, K10086⟩
  have M10087 := M10078.call K10086
  refine ⟨_, rfl, ?_⟩
  refine W_run 1 [(0, .slice p9843 x9841.length c9844), (1, .slice p9848 x9846.length c9849), (2, .int .i64 x9851), (8, .slice p10066 r10064.1.length c10067), (9, .slice p10071 r10064.2.1.length c10072), (10, .int .i64 r10064.2.2.1), (11, .bool r10064.2.2.2), (12, .slice p10081 r10079.length c10082)] w10085 (by kernel_rfl) ?_
  refine W_nil ?_
  refine N_then ?_
  refine G_seq ?_
  refine G_region ?_
  refine W_run 1 [(0, .slice p9843 x9841.length c9844), (1, .slice p9848 x9846.length c9849), (2, .int .i64 x9851), (8, .slice p10066 r10064.1.length c10067), (9, .slice p10071 r10064.2.1.length c10072), (10, .int .i64 r10064.2.2.1), (11, .bool r10064.2.2.2), (12, .slice p10081 r10079.length c10082), (46, .slice p9848 x9846.length c9849)] w10085 (by kernel_rfl) ?_
  obtain ⟨r10088, hr10088, hm⟩ := gx_bind hm
  refine W_call 16 #[.slice p9848 x9846.length c9849] (by kernel_rfl) (by kernel_rfl) ?_
  refine (c_l_toBalloonS w10085 x9846 p9848 c9849 (h9850.mem0 M10087) hr10088).mono ?_
  rintro e_ w10095 ⟨p10090, c10091, sg10092, sg10093, rfl, ho10094, K10096⟩
  have M10097 := M10087.call K10096
  refine ⟨_, rfl, ?_⟩
  refine W_run 1 [(0, .slice p9843 x9841.length c9844), (1, .slice p9848 x9846.length c9849), (2, .int .i64 x9851), (8, .slice p10066 r10064.1.length c10067), (9, .slice p10071 r10064.2.1.length c10072), (10, .int .i64 r10064.2.2.1), (11, .bool r10064.2.2.2), (12, .slice p10081 r10079.length c10082), (13, .slice p10090 r10088.length c10091)] w10095 (by kernel_rfl) ?_
  refine W_nil ?_
  refine N_then ?_
  refine G_seq ?_
  refine G_region ?_
  refine W_run 3 [(0, .slice p9843 x9841.length c9844), (1, .slice p9848 x9846.length c9849), (2, .int .i64 x9851), (8, .slice p10066 r10064.1.length c10067), (9, .slice p10071 r10064.2.1.length c10072), (10, .int .i64 r10064.2.2.1), (11, .bool r10064.2.2.2), (12, .slice p10081 r10079.length c10082), (13, .slice p10090 r10088.length c10091), (49, .slice p10081 r10079.length c10082), (50, .slice p10090 r10088.length c10091), (51, .int .i64 x9851)] w10095 (by kernel_rfl) ?_
  obtain ⟨r10437, hr10437, hm⟩ := gx_bind hm
  refine W_call 37 #[.slice p10081 r10079.length c10082, .slice p10090 r10088.length c10091, .int .i64 x9851] (by kernel_rfl) (by kernel_rfl) ?_
  refine (c_i_SettleGuest w10095 r10079 p10081 c10082 (ho10084.rd M10097 6 (by kernel_rfl)) r10088 p10090 c10091 (ho10094.rd M10097 7 (by kernel_rfl) 8 (by kernel_rfl)) x9851 hr10437).mono ?_
  rintro e_ w10449 ⟨p10439, c10440, sg10441, p10444, c10445, sg10446, sg10447, rfl, ho10442, ho10448, K10450⟩
  have M10451 := M10097.call K10450
  refine ⟨_, rfl, ?_⟩
  refine W_run 9 [(0, .slice p9843 x9841.length c9844), (1, .slice p9848 x9846.length c9849), (2, .int .i64 x9851), (8, .slice p10066 r10064.1.length c10067), (9, .slice p10071 r10064.2.1.length c10072), (10, .int .i64 r10064.2.2.1), (11, .bool r10064.2.2.2), (12, .slice p10081 r10079.length c10082), (13, .slice p10090 r10088.length c10091), (14, .slice p10439 r10437.1.length c10440), (15, .slice p10444 r10437.2.1.length c10445), (16, .int .i64 r10437.2.2.1), (17, .bool r10437.2.2.2)] w10449 (by kernel_rfl) ?_
  refine W_nil ?_
  refine N_then ?_
  refine G_seq ?_
  refine G_seq ?_
  obtain ⟨o10463, ho10464, hm10465⟩ := gx_bind hm
  refine G_meet (fun a w' => Mem [] w w' [sg10068, sg10073, sg10074, sg10083, sg10092, sg10093, sg10441, sg10446, sg10447] ∧ Sat Try.f10.ntmps [(0, .slice p9843 x9841.length c9844), (1, .slice p9848 x9846.length c9849), (2, .int .i64 x9851), (8, .slice p10066 r10064.1.length c10067), (9, .slice p10071 r10064.2.1.length c10072), (10, .int .i64 r10064.2.2.1), (11, .bool r10064.2.2.2), (12, .slice p10081 r10079.length c10082), (13, .slice p10090 r10088.length c10091), (14, .slice p10439 r10437.1.length c10440), (15, .slice p10444 r10437.2.1.length c10445), (16, .int .i64 r10437.2.2.1), (17, .bool r10437.2.2.2), (76, .bool o10463)] a) ?_ ?_
  · have hm := ho10464
    refine G_region ?_
    refine W_run 2 [(0, .slice p9843 x9841.length c9844), (1, .slice p9848 x9846.length c9849), (2, .int .i64 x9851), (8, .slice p10066 r10064.1.length c10067), (9, .slice p10071 r10064.2.1.length c10072), (10, .int .i64 r10064.2.2.1), (11, .bool r10064.2.2.2), (12, .slice p10081 r10079.length c10082), (13, .slice p10090 r10088.length c10091), (14, .slice p10439 r10437.1.length c10440), (15, .slice p10444 r10437.2.1.length c10445), (16, .int .i64 r10437.2.2.1), (17, .bool r10437.2.2.2), (57, .slice p10439 r10437.1.length c10440), (58, .slice p10066 r10064.1.length c10067)] w10449 (by kernel_rfl) ?_
    obtain ⟨r10466, hr10466, hm⟩ := gx_bind hm
    refine W_call 18 #[.slice p10439 r10437.1.length c10440, .slice p10066 r10064.1.length c10067] (by kernel_rfl) (by kernel_rfl) ?_
    refine (c_l_eqIntS w10449 r10437.1 p10439 c10440 (ho10442.rd M10451 9 (by kernel_rfl)) r10064.1 p10066 c10067 (ho10069.rd M10451 3 (by kernel_rfl)) hr10466).mono ?_
    rintro e_ w10467 ⟨rfl, K10468⟩
    have M10469 := M10451.call0 K10468
    refine ⟨_, rfl, ?_⟩
    refine W_run 2 [(0, .slice p9843 x9841.length c9844), (1, .slice p9848 x9846.length c9849), (2, .int .i64 x9851), (8, .slice p10066 r10064.1.length c10067), (9, .slice p10071 r10064.2.1.length c10072), (10, .int .i64 r10064.2.2.1), (11, .bool r10064.2.2.2), (12, .slice p10081 r10079.length c10082), (13, .slice p10090 r10088.length c10091), (14, .slice p10439 r10437.1.length c10440), (15, .slice p10444 r10437.2.1.length c10445), (16, .int .i64 r10437.2.2.1), (17, .bool r10437.2.2.2), (61, .bool (!r10466))] w10467 (by kernel_rfl) ?_
    rcases gx_bif hm with ⟨hc10470, hm⟩ | ⟨hc10470, hm⟩
    · refine W_known 61 true (by kernel_rfl) hc10470 ?_
      refine W_run 15 [(0, .slice p9843 x9841.length c9844), (1, .slice p9848 x9846.length c9849), (2, .int .i64 x9851), (8, .slice p10066 r10064.1.length c10067), (9, .slice p10071 r10064.2.1.length c10072), (10, .int .i64 r10064.2.2.1), (11, .bool r10064.2.2.2), (12, .slice p10081 r10079.length c10082), (13, .slice p10090 r10088.length c10091), (14, .slice p10439 r10437.1.length c10440), (15, .slice p10444 r10437.2.1.length c10445), (16, .int .i64 r10437.2.2.1), (17, .bool r10437.2.2.2), (76, .bool true)] w10467 (by kernel_rfl) ?_
      refine W_nil ?_
      obtain rfl := Option.some.inj hm
      exact N_meet fun a ha => ⟨M10469.pick [3, 4, 5, 6, 7, 8, 9, 10, 11] (by kernel_rfl), ha.sub (by kernel_rfl)⟩
    refine W_known 61 false (by kernel_rfl) hc10470 ?_
    refine W_run 2 [(0, .slice p9843 x9841.length c9844), (1, .slice p9848 x9846.length c9849), (2, .int .i64 x9851), (8, .slice p10066 r10064.1.length c10067), (9, .slice p10071 r10064.2.1.length c10072), (10, .int .i64 r10064.2.2.1), (11, .bool r10064.2.2.2), (12, .slice p10081 r10079.length c10082), (13, .slice p10090 r10088.length c10091), (14, .slice p10439 r10437.1.length c10440), (15, .slice p10444 r10437.2.1.length c10445), (16, .int .i64 r10437.2.2.1), (17, .bool r10437.2.2.2), (61, .bool false), (62, .slice p10444 r10437.2.1.length c10445), (63, .slice p10071 r10064.2.1.length c10072)] w10467 (by kernel_rfl) ?_
    obtain ⟨r10471, hr10471, hm⟩ := gx_bind hm
    refine W_call 19 #[.slice p10444 r10437.2.1.length c10445, .slice p10071 r10064.2.1.length c10072] (by kernel_rfl) (by kernel_rfl) ?_
    refine (c_l_eqBalloonS w10467 r10437.2.1 p10444 c10445 (ho10448.rd M10469 10 (by kernel_rfl) 11 (by kernel_rfl)) r10064.2.1 p10071 c10072 (ho10075.rd M10469 4 (by kernel_rfl) 5 (by kernel_rfl)) hr10471).mono ?_
    rintro e_ w10472 ⟨rfl, K10473⟩
    have M10474 := M10469.call0 K10473
    refine ⟨_, rfl, ?_⟩
    refine W_run 3 [(0, .slice p9843 x9841.length c9844), (1, .slice p9848 x9846.length c9849), (2, .int .i64 x9851), (8, .slice p10066 r10064.1.length c10067), (9, .slice p10071 r10064.2.1.length c10072), (10, .int .i64 r10064.2.2.1), (11, .bool r10064.2.2.2), (12, .slice p10081 r10079.length c10082), (13, .slice p10090 r10088.length c10091), (14, .slice p10439 r10437.1.length c10440), (15, .slice p10444 r10437.2.1.length c10445), (16, .int .i64 r10437.2.2.1), (17, .bool r10437.2.2.2), (67, .bool (!r10471))] w10472 (by kernel_rfl) ?_
    rcases gx_bif hm with ⟨hc10475, hm⟩ | ⟨hc10475, hm⟩
    · refine W_known 67 true (by kernel_rfl) hc10475 ?_
      refine W_run 9 [(0, .slice p9843 x9841.length c9844), (1, .slice p9848 x9846.length c9849), (2, .int .i64 x9851), (8, .slice p10066 r10064.1.length c10067), (9, .slice p10071 r10064.2.1.length c10072), (10, .int .i64 r10064.2.2.1), (11, .bool r10064.2.2.2), (12, .slice p10081 r10079.length c10082), (13, .slice p10090 r10088.length c10091), (14, .slice p10439 r10437.1.length c10440), (15, .slice p10444 r10437.2.1.length c10445), (16, .int .i64 r10437.2.2.1), (17, .bool r10437.2.2.2), (76, .bool true)] w10472 (by kernel_rfl) ?_
      refine W_nil ?_
      obtain rfl := Option.some.inj hm
      exact N_meet fun a ha => ⟨M10474.pick [3, 4, 5, 6, 7, 8, 9, 10, 11] (by kernel_rfl), ha.sub (by kernel_rfl)⟩
    refine W_known 67 false (by kernel_rfl) hc10475 ?_
    refine W_run 5 [(0, .slice p9843 x9841.length c9844), (1, .slice p9848 x9846.length c9849), (2, .int .i64 x9851), (8, .slice p10066 r10064.1.length c10067), (9, .slice p10071 r10064.2.1.length c10072), (10, .int .i64 r10064.2.2.1), (11, .bool r10064.2.2.2), (12, .slice p10081 r10079.length c10082), (13, .slice p10090 r10088.length c10091), (14, .slice p10439 r10437.1.length c10440), (15, .slice p10444 r10437.2.1.length c10445), (16, .int .i64 r10437.2.2.1), (17, .bool r10437.2.2.2), (72, .bool (r10437.2.2.1 != r10064.2.2.1))] w10472 (by kernel_rfl) ?_
    rcases gx_bif hm with ⟨hc10476, hm⟩ | ⟨hc10476, hm⟩
    · refine W_known 72 true (by kernel_rfl) hc10476 ?_
      refine W_run 4 [(0, .slice p9843 x9841.length c9844), (1, .slice p9848 x9846.length c9849), (2, .int .i64 x9851), (8, .slice p10066 r10064.1.length c10067), (9, .slice p10071 r10064.2.1.length c10072), (10, .int .i64 r10064.2.2.1), (11, .bool r10064.2.2.2), (12, .slice p10081 r10079.length c10082), (13, .slice p10090 r10088.length c10091), (14, .slice p10439 r10437.1.length c10440), (15, .slice p10444 r10437.2.1.length c10445), (16, .int .i64 r10437.2.2.1), (17, .bool r10437.2.2.2), (76, .bool true)] w10472 (by kernel_rfl) ?_
      refine W_nil ?_
      obtain rfl := Option.some.inj hm
      exact N_meet fun a ha => ⟨M10474.pick [3, 4, 5, 6, 7, 8, 9, 10, 11] (by kernel_rfl), ha.sub (by kernel_rfl)⟩
    refine W_known 72 false (by kernel_rfl) hc10476 ?_
    refine W_run 4 [(0, .slice p9843 x9841.length c9844), (1, .slice p9848 x9846.length c9849), (2, .int .i64 x9851), (8, .slice p10066 r10064.1.length c10067), (9, .slice p10071 r10064.2.1.length c10072), (10, .int .i64 r10064.2.2.1), (11, .bool r10064.2.2.2), (12, .slice p10081 r10079.length c10082), (13, .slice p10090 r10088.length c10091), (14, .slice p10439 r10437.1.length c10440), (15, .slice p10444 r10437.2.1.length c10445), (16, .int .i64 r10437.2.2.1), (17, .bool r10437.2.2.2), (76, .bool (!(r10437.2.2.2 == r10064.2.2.2)))] w10472 (by kernel_rfl) ?_
    refine W_nil ?_
    obtain rfl := Option.some.inj hm
    exact N_meet fun a ha => ⟨M10474.pick [3, 4, 5, 6, 7, 8, 9, 10, 11] (by kernel_rfl), ha.sub (by kernel_rfl)⟩
  intro a10479 w10477 ⟨M10478, hS10480⟩
  refine N_use hS10480 ?_
  have hm := hm10465
  refine N_then ?_
  rcases gx_bif hm with ⟨hc10481, hm⟩ | ⟨hc10481, hm⟩
  · refine G_cond_t (b := o10463) hc10481 (by kernel_rfl) ?_
    refine G_seq ?_
    refine G_region ?_
    refine W_run 1 [(6, .bool false)] w10477 (by kernel_rfl) ?_
    refine W_nil ?_
    refine N_then ?_
    refine G_ret ?_
    refine N_then_ret ?_
    obtain rfl := Option.some.inj hm
    refine N_ret [.bool false] (RVs_cons (RV_tmp (by kernel_rfl)) RVs_nil) ?_
    exact ⟨rfl, M10478.pick [] (by kernel_rfl)⟩
  refine G_cond_f (b := o10463) hc10481 (by kernel_rfl) ?_
  refine G_skip ?_
  refine N_then ?_
  refine G_seq ?_
  refine G_seq ?_
  refine G_region ?_
  refine W_run 2 [(0, .slice p9843 x9841.length c9844), (1, .slice p9848 x9846.length c9849), (2, .int .i64 x9851), (8, .slice p10066 r10064.1.length c10067), (9, .slice p10071 r10064.2.1.length c10072), (10, .int .i64 r10064.2.2.1), (11, .bool r10064.2.2.2), (12, .slice p10081 r10079.length c10082), (13, .slice p10090 r10088.length c10091), (14, .slice p10439 r10437.1.length c10440), (15, .slice p10444 r10437.2.1.length c10445), (16, .int .i64 r10437.2.2.1), (17, .bool r10437.2.2.2), (77, .slice p10081 r10079.length c10082), (78, .slice p9843 x9841.length c9844)] w10477 (by kernel_rfl) ?_
  obtain ⟨r10482, hr10482, hm⟩ := gx_bind hm
  refine W_call 15 #[.slice p9843 x9841.length c9844] (by kernel_rfl) (by kernel_rfl) ?_
  refine (c_l_toIntS w10477 x9841 p9843 c9844 (h9845.mem0 M10478) hr10482).mono ?_
  rintro e_ w10488 ⟨p10484, c10485, sg10486, rfl, ho10487, K10489⟩
  have M10490 := M10478.call K10489
  refine ⟨_, rfl, ?_⟩
  obtain ⟨r10491, hr10491, hm⟩ := gx_bind hm
  refine W_call 18 #[.slice p10081 r10079.length c10082, .slice p10484 r10482.length c10485] (by kernel_rfl) (by kernel_rfl) ?_
  refine (c_l_eqIntS w10488 r10079 p10081 c10082 (ho10084.rd M10490 3 (by kernel_rfl)) r10482 p10484 c10485 (ho10487.rd M10490 9 (by kernel_rfl)) hr10491).mono ?_
  rintro e_ w10492 ⟨rfl, K10493⟩
  have M10494 := M10490.call0 K10493
  refine ⟨_, rfl, ?_⟩
  refine W_run 1 [(0, .slice p9843 x9841.length c9844), (1, .slice p9848 x9846.length c9849), (2, .int .i64 x9851), (8, .slice p10066 r10064.1.length c10067), (9, .slice p10071 r10064.2.1.length c10072), (10, .int .i64 r10064.2.2.1), (11, .bool r10064.2.2.2), (12, .slice p10081 r10079.length c10082), (13, .slice p10090 r10088.length c10091), (14, .slice p10439 r10437.1.length c10440), (15, .slice p10444 r10437.2.1.length c10445), (16, .int .i64 r10437.2.2.1), (17, .bool r10437.2.2.2), (81, .bool (!r10491))] w10492 (by kernel_rfl) ?_
  refine W_nil ?_
  refine N_then ?_
  rcases gx_bif hm with ⟨hc10495, hm⟩ | ⟨hc10495, hm⟩
  · refine G_cond_t (b := (!r10491)) hc10495 (by kernel_rfl) ?_
    refine G_seq ?_
    refine G_region ?_
    refine W_run 1 [(6, .bool false)] w10492 (by kernel_rfl) ?_
    refine W_nil ?_
    refine N_then ?_
    refine G_ret ?_
    refine N_then_ret ?_
    obtain rfl := Option.some.inj hm
    refine N_ret [.bool false] (RVs_cons (RV_tmp (by kernel_rfl)) RVs_nil) ?_
    exact ⟨rfl, M10494.pick [] (by kernel_rfl)⟩
  refine G_cond_f (b := (!r10491)) hc10495 (by kernel_rfl) ?_
  refine G_skip ?_
  refine N_then ?_
  refine G_seq ?_
  refine G_seq ?_
  refine G_region ?_
  refine W_run 2 [(0, .slice p9843 x9841.length c9844), (1, .slice p9848 x9846.length c9849), (2, .int .i64 x9851), (8, .slice p10066 r10064.1.length c10067), (9, .slice p10071 r10064.2.1.length c10072), (10, .int .i64 r10064.2.2.1), (11, .bool r10064.2.2.2), (12, .slice p10081 r10079.length c10082), (13, .slice p10090 r10088.length c10091), (14, .slice p10439 r10437.1.length c10440), (15, .slice p10444 r10437.2.1.length c10445), (16, .int .i64 r10437.2.2.1), (17, .bool r10437.2.2.2), (82, .slice p10090 r10088.length c10091), (83, .slice p9848 x9846.length c9849)] w10492 (by kernel_rfl) ?_
  obtain ⟨r10496, hr10496, hm⟩ := gx_bind hm
  refine W_call 16 #[.slice p9848 x9846.length c9849] (by kernel_rfl) (by kernel_rfl) ?_
  refine (c_l_toBalloonS w10492 x9846 p9848 c9849 (h9850.mem0 M10494) hr10496).mono ?_
  rintro e_ w10503 ⟨p10498, c10499, sg10500, sg10501, rfl, ho10502, K10504⟩
  have M10505 := M10494.call K10504
  refine ⟨_, rfl, ?_⟩
  obtain ⟨r10506, hr10506, hm⟩ := gx_bind hm
  refine W_call 19 #[.slice p10090 r10088.length c10091, .slice p10498 r10496.length c10499] (by kernel_rfl) (by kernel_rfl) ?_
  refine (c_l_eqBalloonS w10503 r10088 p10090 c10091 (ho10094.rd M10505 4 (by kernel_rfl) 5 (by kernel_rfl)) r10496 p10498 c10499 (ho10502.rd M10505 10 (by kernel_rfl) 11 (by kernel_rfl)) hr10506).mono ?_
  rintro e_ w10507 ⟨rfl, K10508⟩
  have M10509 := M10505.call0 K10508
  refine ⟨_, rfl, ?_⟩
  refine W_run 1 [(0, .slice p9843 x9841.length c9844), (1, .slice p9848 x9846.length c9849), (2, .int .i64 x9851), (8, .slice p10066 r10064.1.length c10067), (9, .slice p10071 r10064.2.1.length c10072), (10, .int .i64 r10064.2.2.1), (11, .bool r10064.2.2.2), (12, .slice p10081 r10079.length c10082), (13, .slice p10090 r10088.length c10091), (14, .slice p10439 r10437.1.length c10440), (15, .slice p10444 r10437.2.1.length c10445), (16, .int .i64 r10437.2.2.1), (17, .bool r10437.2.2.2), (86, .bool (!r10506))] w10507 (by kernel_rfl) ?_
  refine W_nil ?_
  refine N_then ?_
  rcases gx_bif hm with ⟨hc10510, hm⟩ | ⟨hc10510, hm⟩
  · refine G_cond_t (b := (!r10506)) hc10510 (by kernel_rfl) ?_
    refine G_seq ?_
    refine G_region ?_
    refine W_run 1 [(6, .bool false)] w10507 (by kernel_rfl) ?_
    refine W_nil ?_
    refine N_then ?_
    refine G_ret ?_
    refine N_then_ret ?_
    obtain rfl := Option.some.inj hm
    refine N_ret [.bool false] (RVs_cons (RV_tmp (by kernel_rfl)) RVs_nil) ?_
    exact ⟨rfl, M10509.pick [] (by kernel_rfl)⟩
  refine G_cond_f (b := (!r10506)) hc10510 (by kernel_rfl) ?_
  refine G_skip ?_
  refine N_then ?_
  refine G_seq ?_
  refine G_region ?_
  refine W_run 1 [(0, .slice p9843 x9841.length c9844), (1, .slice p9848 x9846.length c9849), (2, .int .i64 x9851), (8, .slice p10066 r10064.1.length c10067), (9, .slice p10071 r10064.2.1.length c10072), (10, .int .i64 r10064.2.2.1), (11, .bool r10064.2.2.2), (12, .slice p10081 r10079.length c10082), (13, .slice p10090 r10088.length c10091), (14, .slice p10439 r10437.1.length c10440), (15, .slice p10444 r10437.2.1.length c10445), (16, .int .i64 r10437.2.2.1), (17, .bool r10437.2.2.2), (18, .int .i64 1)] w10507 (by kernel_rfl) ?_
  refine W_nil ?_
  refine N_then ?_
  refine G_seq ?_
  refine G_region ?_
  refine W_run 2 [(0, .slice p9843 x9841.length c9844), (1, .slice p9848 x9846.length c9849), (2, .int .i64 x9851), (8, .slice p10066 r10064.1.length c10067), (9, .slice p10071 r10064.2.1.length c10072), (10, .int .i64 r10064.2.2.1), (11, .bool r10064.2.2.2), (13, .slice p10090 r10088.length c10091), (14, .slice p10439 r10437.1.length c10440), (15, .slice p10444 r10437.2.1.length c10445), (16, .int .i64 r10437.2.2.1), (17, .bool r10437.2.2.2), (18, .int .i64 1), (87, .slice p10081 r10079.length c10082), (88, .int .i64 1)] w10507 (by kernel_rfl) ?_
  obtain ⟨r10511, hr10511, hm⟩ := gx_bind hm
  refine W_call 24 #[.slice p10081 r10079.length c10082, .int .i64 1] (by kernel_rfl) (by kernel_rfl) ?_
  refine (c_l_markIntS w10507 r10079 p10081 c10082 sg10083 ho10084 1 (M10509.hasPick [3]) (M10509.nodupPick [3] (by kernel_rfl)) hr10511).mono ?_
  rintro e_ w10515 ⟨sg10512, rfl, ho10513, hl10514, K10516⟩
  have M10517 := M10509.callF' [3] [0, 1, 2, 4, 5, 6, 7, 8, 9, 10, 11] (by kernel_rfl) K10516
  refine ⟨_, rfl, ?_⟩
  refine W_conv 87 (.slice p10081 r10079.length c10082) (.slice p10081 r10511.2.length c10082) (by kernel_rfl) (by first | rw [hl10514] | rw [hl10514]) ?_
  refine W_run 1 [(0, .slice p9843 x9841.length c9844), (1, .slice p9848 x9846.length c9849), (2, .int .i64 x9851), (8, .slice p10066 r10064.1.length c10067), (9, .slice p10071 r10064.2.1.length c10072), (10, .int .i64 r10064.2.2.1), (11, .bool r10064.2.2.2), (13, .slice p10090 r10088.length c10091), (14, .slice p10439 r10437.1.length c10440), (15, .slice p10444 r10437.2.1.length c10445), (16, .int .i64 r10437.2.2.1), (17, .bool r10437.2.2.2), (18, .int .i64 r10511.1)] w10515 (by kernel_rfl) ?_
  refine W_nil ?_
  refine N_then ?_
  refine G_seq ?_
  refine G_region ?_
  refine W_run 2 [(0, .slice p9843 x9841.length c9844), (1, .slice p9848 x9846.length c9849), (2, .int .i64 x9851), (8, .slice p10066 r10064.1.length c10067), (9, .slice p10071 r10064.2.1.length c10072), (10, .int .i64 r10064.2.2.1), (11, .bool r10064.2.2.2), (14, .slice p10439 r10437.1.length c10440), (15, .slice p10444 r10437.2.1.length c10445), (16, .int .i64 r10437.2.2.1), (17, .bool r10437.2.2.2), (18, .int .i64 r10511.1), (90, .slice p10090 r10088.length c10091), (91, .int .i64 r10511.1)] w10515 (by kernel_rfl) ?_
  obtain ⟨r10518, hr10518, hm⟩ := gx_bind hm
  refine W_call 25 #[.slice p10090 r10088.length c10091, .int .i64 r10511.1] (by kernel_rfl) (by kernel_rfl) ?_
  refine (c_l_markBalloonS w10515 r10088 p10090 c10091 sg10092 sg10093 ho10094 r10511.1 (M10517.hasPick [3, 4]) (M10517.nodupPick [3, 4] (by kernel_rfl)) hr10518).mono ?_
  rintro e_ w10523 ⟨sg10519, sg10520, rfl, ho10521, hl10522, K10524⟩
  have M10525 := M10517.callF' [3, 4] [0, 1, 2, 5, 6, 7, 8, 9, 10, 11] (by kernel_rfl) K10524
  refine ⟨_, rfl, ?_⟩
  refine W_conv 90 (.slice p10090 r10088.length c10091) (.slice p10090 r10518.2.length c10091) (by kernel_rfl) (by first | rw [hl10522] | rw [hl10522]) ?_
  refine W_run 1 [(0, .slice p9843 x9841.length c9844), (1, .slice p9848 x9846.length c9849), (2, .int .i64 x9851), (8, .slice p10066 r10064.1.length c10067), (9, .slice p10071 r10064.2.1.length c10072), (10, .int .i64 r10064.2.2.1), (11, .bool r10064.2.2.2), (14, .slice p10439 r10437.1.length c10440), (15, .slice p10444 r10437.2.1.length c10445), (16, .int .i64 r10437.2.2.1), (17, .bool r10437.2.2.2), (18, .int .i64 r10518.1)] w10523 (by kernel_rfl) ?_
  refine W_nil ?_
  refine N_then ?_
  refine G_seq ?_
  refine G_seq ?_
  obtain ⟨o10538, ho10539, hm10540⟩ := gx_bind hm
  refine G_meet (fun a w' => Mem [] w w' [sg10068, sg10073, sg10074, sg10441, sg10446, sg10447] ∧ Sat Try.f10.ntmps [(0, .slice p9843 x9841.length c9844), (1, .slice p9848 x9846.length c9849), (2, .int .i64 x9851), (8, .slice p10066 r10064.1.length c10067), (9, .slice p10071 r10064.2.1.length c10072), (10, .int .i64 r10064.2.2.1), (11, .bool r10064.2.2.2), (14, .slice p10439 r10437.1.length c10440), (15, .slice p10444 r10437.2.1.length c10445), (116, .bool o10538)] a) ?_ ?_
  · have hm := ho10539
    refine G_region ?_
    refine W_run 3 [(0, .slice p9843 x9841.length c9844), (1, .slice p9848 x9846.length c9849), (2, .int .i64 x9851), (8, .slice p10066 r10064.1.length c10067), (9, .slice p10071 r10064.2.1.length c10072), (10, .int .i64 r10064.2.2.1), (11, .bool r10064.2.2.2), (14, .slice p10439 r10437.1.length c10440), (15, .slice p10444 r10437.2.1.length c10445), (16, .int .i64 r10437.2.2.1), (17, .bool r10437.2.2.2), (95, .bool (decide (r10518.1 < 0)))] w10523 (by kernel_rfl) ?_
    rcases gx_bif hm with ⟨hc10541, hm⟩ | ⟨hc10541, hm⟩
    · refine W_known 95 true (by kernel_rfl) hc10541 ?_
      refine W_run 21 [(0, .slice p9843 x9841.length c9844), (1, .slice p9848 x9846.length c9849), (2, .int .i64 x9851), (8, .slice p10066 r10064.1.length c10067), (9, .slice p10071 r10064.2.1.length c10072), (10, .int .i64 r10064.2.2.1), (11, .bool r10064.2.2.2), (14, .slice p10439 r10437.1.length c10440), (15, .slice p10444 r10437.2.1.length c10445), (116, .bool true)] w10523 (by kernel_rfl) ?_
      refine W_nil ?_
      obtain rfl := Option.some.inj hm
      exact N_meet fun a ha => ⟨M10525.pick [0, 1, 2, 3, 4, 5] (by kernel_rfl), ha.sub (by kernel_rfl)⟩
    refine W_known 95 false (by kernel_rfl) hc10541 ?_
    refine W_run 2 [(0, .slice p9843 x9841.length c9844), (1, .slice p9848 x9846.length c9849), (2, .int .i64 x9851), (8, .slice p10066 r10064.1.length c10067), (9, .slice p10071 r10064.2.1.length c10072), (10, .int .i64 r10064.2.2.1), (11, .bool r10064.2.2.2), (14, .slice p10439 r10437.1.length c10440), (15, .slice p10444 r10437.2.1.length c10445), (16, .int .i64 r10437.2.2.1), (17, .bool r10437.2.2.2), (95, .bool false), (96, .slice p10439 r10437.1.length c10440), (97, .slice p10066 r10064.1.length c10067)] w10523 (by kernel_rfl) ?_
    obtain ⟨r10542, hr10542, hm⟩ := gx_bind hm
    refine W_call 18 #[.slice p10439 r10437.1.length c10440, .slice p10066 r10064.1.length c10067] (by kernel_rfl) (by kernel_rfl) ?_
    refine (c_l_eqIntS w10523 r10437.1 p10439 c10440 (ho10442.rd M10525 3 (by kernel_rfl)) r10064.1 p10066 c10067 (ho10069.rd M10525 0 (by kernel_rfl)) hr10542).mono ?_
    rintro e_ w10543 ⟨rfl, K10544⟩
    have M10545 := M10525.call0 K10544
    refine ⟨_, rfl, ?_⟩
    refine W_run 3 [(0, .slice p9843 x9841.length c9844), (1, .slice p9848 x9846.length c9849), (2, .int .i64 x9851), (8, .slice p10066 r10064.1.length c10067), (9, .slice p10071 r10064.2.1.length c10072), (10, .int .i64 r10064.2.2.1), (11, .bool r10064.2.2.2), (14, .slice p10439 r10437.1.length c10440), (15, .slice p10444 r10437.2.1.length c10445), (16, .int .i64 r10437.2.2.1), (17, .bool r10437.2.2.2), (101, .bool (!r10542))] w10543 (by kernel_rfl) ?_
    rcases gx_bif hm with ⟨hc10546, hm⟩ | ⟨hc10546, hm⟩
    · refine W_known 101 true (by kernel_rfl) hc10546 ?_
      refine W_run 15 [(0, .slice p9843 x9841.length c9844), (1, .slice p9848 x9846.length c9849), (2, .int .i64 x9851), (8, .slice p10066 r10064.1.length c10067), (9, .slice p10071 r10064.2.1.length c10072), (10, .int .i64 r10064.2.2.1), (11, .bool r10064.2.2.2), (14, .slice p10439 r10437.1.length c10440), (15, .slice p10444 r10437.2.1.length c10445), (116, .bool true)] w10543 (by kernel_rfl) ?_
      refine W_nil ?_
      obtain rfl := Option.some.inj hm
      exact N_meet fun a ha => ⟨M10545.pick [0, 1, 2, 3, 4, 5] (by kernel_rfl), ha.sub (by kernel_rfl)⟩
    refine W_known 101 false (by kernel_rfl) hc10546 ?_
    refine W_run 2 [(0, .slice p9843 x9841.length c9844), (1, .slice p9848 x9846.length c9849), (2, .int .i64 x9851), (8, .slice p10066 r10064.1.length c10067), (9, .slice p10071 r10064.2.1.length c10072), (10, .int .i64 r10064.2.2.1), (11, .bool r10064.2.2.2), (14, .slice p10439 r10437.1.length c10440), (15, .slice p10444 r10437.2.1.length c10445), (16, .int .i64 r10437.2.2.1), (17, .bool r10437.2.2.2), (101, .bool false), (102, .slice p10444 r10437.2.1.length c10445), (103, .slice p10071 r10064.2.1.length c10072)] w10543 (by kernel_rfl) ?_
    obtain ⟨r10547, hr10547, hm⟩ := gx_bind hm
    refine W_call 19 #[.slice p10444 r10437.2.1.length c10445, .slice p10071 r10064.2.1.length c10072] (by kernel_rfl) (by kernel_rfl) ?_
    refine (c_l_eqBalloonS w10543 r10437.2.1 p10444 c10445 (ho10448.rd M10545 4 (by kernel_rfl) 5 (by kernel_rfl)) r10064.2.1 p10071 c10072 (ho10075.rd M10545 1 (by kernel_rfl) 2 (by kernel_rfl)) hr10547).mono ?_
    rintro e_ w10548 ⟨rfl, K10549⟩
    have M10550 := M10545.call0 K10549
    refine ⟨_, rfl, ?_⟩
    refine W_run 3 [(0, .slice p9843 x9841.length c9844), (1, .slice p9848 x9846.length c9849), (2, .int .i64 x9851), (8, .slice p10066 r10064.1.length c10067), (9, .slice p10071 r10064.2.1.length c10072), (10, .int .i64 r10064.2.2.1), (11, .bool r10064.2.2.2), (14, .slice p10439 r10437.1.length c10440), (15, .slice p10444 r10437.2.1.length c10445), (16, .int .i64 r10437.2.2.1), (17, .bool r10437.2.2.2), (107, .bool (!r10547))] w10548 (by kernel_rfl) ?_
    rcases gx_bif hm with ⟨hc10551, hm⟩ | ⟨hc10551, hm⟩
    · refine W_known 107 true (by kernel_rfl) hc10551 ?_
      refine W_run 9 [(0, .slice p9843 x9841.length c9844), (1, .slice p9848 x9846.length c9849), (2, .int .i64 x9851), (8, .slice p10066 r10064.1.length c10067), (9, .slice p10071 r10064.2.1.length c10072), (10, .int .i64 r10064.2.2.1), (11, .bool r10064.2.2.2), (14, .slice p10439 r10437.1.length c10440), (15, .slice p10444 r10437.2.1.length c10445), (116, .bool true)] w10548 (by kernel_rfl) ?_
      refine W_nil ?_
      obtain rfl := Option.some.inj hm
      exact N_meet fun a ha => ⟨M10550.pick [0, 1, 2, 3, 4, 5] (by kernel_rfl), ha.sub (by kernel_rfl)⟩
    refine W_known 107 false (by kernel_rfl) hc10551 ?_
    refine W_run 5 [(0, .slice p9843 x9841.length c9844), (1, .slice p9848 x9846.length c9849), (2, .int .i64 x9851), (8, .slice p10066 r10064.1.length c10067), (9, .slice p10071 r10064.2.1.length c10072), (10, .int .i64 r10064.2.2.1), (11, .bool r10064.2.2.2), (14, .slice p10439 r10437.1.length c10440), (15, .slice p10444 r10437.2.1.length c10445), (17, .bool r10437.2.2.2), (112, .bool (r10437.2.2.1 != r10064.2.2.1))] w10548 (by kernel_rfl) ?_
    rcases gx_bif hm with ⟨hc10552, hm⟩ | ⟨hc10552, hm⟩
    · refine W_known 112 true (by kernel_rfl) hc10552 ?_
      refine W_run 4 [(0, .slice p9843 x9841.length c9844), (1, .slice p9848 x9846.length c9849), (2, .int .i64 x9851), (8, .slice p10066 r10064.1.length c10067), (9, .slice p10071 r10064.2.1.length c10072), (10, .int .i64 r10064.2.2.1), (11, .bool r10064.2.2.2), (14, .slice p10439 r10437.1.length c10440), (15, .slice p10444 r10437.2.1.length c10445), (116, .bool true)] w10548 (by kernel_rfl) ?_
      refine W_nil ?_
      obtain rfl := Option.some.inj hm
      exact N_meet fun a ha => ⟨M10550.pick [0, 1, 2, 3, 4, 5] (by kernel_rfl), ha.sub (by kernel_rfl)⟩
    refine W_known 112 false (by kernel_rfl) hc10552 ?_
    refine W_run 4 [(0, .slice p9843 x9841.length c9844), (1, .slice p9848 x9846.length c9849), (2, .int .i64 x9851), (8, .slice p10066 r10064.1.length c10067), (9, .slice p10071 r10064.2.1.length c10072), (10, .int .i64 r10064.2.2.1), (11, .bool r10064.2.2.2), (14, .slice p10439 r10437.1.length c10440), (15, .slice p10444 r10437.2.1.length c10445), (116, .bool (!(r10437.2.2.2 == r10064.2.2.2)))] w10548 (by kernel_rfl) ?_
    refine W_nil ?_
    obtain rfl := Option.some.inj hm
    exact N_meet fun a ha => ⟨M10550.pick [0, 1, 2, 3, 4, 5] (by kernel_rfl), ha.sub (by kernel_rfl)⟩
  intro a10555 w10553 ⟨M10554, hS10556⟩
  refine N_use hS10556 ?_
  have hm := hm10540
  refine N_then ?_
  rcases gx_bif hm with ⟨hc10557, hm⟩ | ⟨hc10557, hm⟩
  · refine G_cond_t (b := o10538) hc10557 (by kernel_rfl) ?_
    refine G_seq ?_
    refine G_region ?_
    refine W_run 1 [(6, .bool false)] w10553 (by kernel_rfl) ?_
    refine W_nil ?_
    refine N_then ?_
    refine G_ret ?_
    refine N_then_ret ?_
    obtain rfl := Option.some.inj hm
    refine N_ret [.bool false] (RVs_cons (RV_tmp (by kernel_rfl)) RVs_nil) ?_
    exact ⟨rfl, M10554.pick [] (by kernel_rfl)⟩
  refine G_cond_f (b := o10538) hc10557 (by kernel_rfl) ?_
  refine G_skip ?_
  refine N_then ?_
  refine G_seq ?_
  refine G_region ?_
  refine W_run 1 [(0, .slice p9843 x9841.length c9844), (1, .slice p9848 x9846.length c9849), (2, .int .i64 x9851), (8, .slice p10066 r10064.1.length c10067), (9, .slice p10071 r10064.2.1.length c10072), (10, .int .i64 r10064.2.2.1), (11, .bool r10064.2.2.2), (14, .slice p10439 r10437.1.length c10440), (15, .slice p10444 r10437.2.1.length c10445), (19, .int .i64 1)] w10553 (by kernel_rfl) ?_
  refine W_nil ?_
  refine N_then ?_
  refine G_seq ?_
  refine G_region ?_
  refine W_run 2 [(0, .slice p9843 x9841.length c9844), (1, .slice p9848 x9846.length c9849), (2, .int .i64 x9851), (8, .slice p10066 r10064.1.length c10067), (9, .slice p10071 r10064.2.1.length c10072), (10, .int .i64 r10064.2.2.1), (11, .bool r10064.2.2.2), (14, .slice p10439 r10437.1.length c10440), (15, .slice p10444 r10437.2.1.length c10445), (19, .int .i64 1), (117, .slice p10439 r10437.1.length c10440), (118, .int .i64 1)] w10553 (by kernel_rfl) ?_
  obtain ⟨r10558, hr10558, hm⟩ := gx_bind hm
  refine W_call 24 #[.slice p10439 r10437.1.length c10440, .int .i64 1] (by kernel_rfl) (by kernel_rfl) ?_
  refine (c_l_markIntS w10553 r10437.1 p10439 c10440 sg10441 ho10442 1 (M10554.hasPick [3]) (M10554.nodupPick [3] (by kernel_rfl)) hr10558).mono ?_
  rintro e_ w10562 ⟨sg10559, rfl, ho10560, hl10561, K10563⟩
  have M10564 := M10554.callF' [3] [0, 1, 2, 4, 5] (by kernel_rfl) K10563
  refine ⟨_, rfl, ?_⟩
  refine W_conv 14 (.slice p10439 r10437.1.length c10440) (.slice p10439 r10558.2.length c10440) (by kernel_rfl) (by first | rw [hl10561] | rw [hl10561]) ?_
  refine W_conv 117 (.slice p10439 r10437.1.length c10440) (.slice p10439 r10558.2.length c10440) (by kernel_rfl) (by first | rw [hl10561] | rw [hl10561]) ?_
  refine W_run 1 [(0, .slice p9843 x9841.length c9844), (1, .slice p9848 x9846.length c9849), (2, .int .i64 x9851), (8, .slice p10066 r10064.1.length c10067), (9, .slice p10071 r10064.2.1.length c10072), (10, .int .i64 r10064.2.2.1), (11, .bool r10064.2.2.2), (14, .slice p10439 r10558.2.length c10440), (15, .slice p10444 r10437.2.1.length c10445), (19, .int .i64 r10558.1)] w10562 (by kernel_rfl) ?_
  refine W_nil ?_
  refine N_then ?_
  refine G_seq ?_
  refine G_region ?_
  refine W_run 2 [(0, .slice p9843 x9841.length c9844), (1, .slice p9848 x9846.length c9849), (2, .int .i64 x9851), (8, .slice p10066 r10064.1.length c10067), (9, .slice p10071 r10064.2.1.length c10072), (10, .int .i64 r10064.2.2.1), (11, .bool r10064.2.2.2), (14, .slice p10439 r10558.2.length c10440), (15, .slice p10444 r10437.2.1.length c10445), (19, .int .i64 r10558.1), (120, .slice p10444 r10437.2.1.length c10445), (121, .int .i64 r10558.1)] w10562 (by kernel_rfl) ?_
  obtain ⟨r10565, hr10565, hm⟩ := gx_bind hm
  refine W_call 25 #[.slice p10444 r10437.2.1.length c10445, .int .i64 r10558.1] (by kernel_rfl) (by kernel_rfl) ?_
  refine (c_l_markBalloonS w10562 r10437.2.1 p10444 c10445 sg10446 sg10447 ho10448 r10558.1 (M10564.hasPick [3, 4]) (M10564.nodupPick [3, 4] (by kernel_rfl)) hr10565).mono ?_
  rintro e_ w10570 ⟨sg10566, sg10567, rfl, ho10568, hl10569, K10571⟩
  have M10572 := M10564.callF' [3, 4] [0, 1, 2, 5] (by kernel_rfl) K10571
  refine ⟨_, rfl, ?_⟩
  refine W_conv 15 (.slice p10444 r10437.2.1.length c10445) (.slice p10444 r10565.2.length c10445) (by kernel_rfl) (by first | rw [hl10569] | rw [hl10569]) ?_
  refine W_conv 120 (.slice p10444 r10437.2.1.length c10445) (.slice p10444 r10565.2.length c10445) (by kernel_rfl) (by first | rw [hl10569] | rw [hl10569]) ?_
  refine W_run 1 [(0, .slice p9843 x9841.length c9844), (1, .slice p9848 x9846.length c9849), (2, .int .i64 x9851), (8, .slice p10066 r10064.1.length c10067), (9, .slice p10071 r10064.2.1.length c10072), (10, .int .i64 r10064.2.2.1), (11, .bool r10064.2.2.2), (14, .slice p10439 r10558.2.length c10440), (15, .slice p10444 r10565.2.length c10445), (19, .int .i64 r10565.1)] w10570 (by kernel_rfl) ?_
  refine W_nil ?_
  refine N_then ?_
  refine G_seq ?_
  refine G_region ?_
  refine W_run 1 [(0, .slice p9843 x9841.length c9844), (1, .slice p9848 x9846.length c9849), (2, .int .i64 x9851), (8, .slice p10066 r10064.1.length c10067), (9, .slice p10071 r10064.2.1.length c10072), (10, .int .i64 r10064.2.2.1), (11, .bool r10064.2.2.2), (14, .slice p10439 r10558.2.length c10440), (15, .slice p10444 r10565.2.length c10445), (19, .int .i64 r10565.1), (20, .int .i64 1)] w10570 (by kernel_rfl) ?_
  refine W_nil ?_
  refine N_then ?_
  refine G_seq ?_
  refine G_region ?_
  refine W_run 2 [(0, .slice p9843 x9841.length c9844), (1, .slice p9848 x9846.length c9849), (2, .int .i64 x9851), (8, .slice p10066 r10064.1.length c10067), (9, .slice p10071 r10064.2.1.length c10072), (10, .int .i64 r10064.2.2.1), (11, .bool r10064.2.2.2), (14, .slice p10439 r10558.2.length c10440), (15, .slice p10444 r10565.2.length c10445), (19, .int .i64 r10565.1), (20, .int .i64 1), (123, .slice p10439 r10558.2.length c10440), (124, .int .i64 1)] w10570 (by kernel_rfl) ?_
  obtain ⟨r10573, hr10573, hm⟩ := gx_bind hm
  refine W_call 29 #[.slice p10439 r10558.2.length c10440, .int .i64 1] (by kernel_rfl) (by kernel_rfl) ?_
  refine (c_l_heldIntS w10570 r10558.2 p10439 c10440 (ho10560.rd M10572 3 (by kernel_rfl)) 1 hr10573).mono ?_
  rintro e_ w10574 ⟨rfl, K10575⟩
  have M10576 := M10572.call0 K10575
  refine ⟨_, rfl, ?_⟩
  refine W_run 1 [(0, .slice p9843 x9841.length c9844), (1, .slice p9848 x9846.length c9849), (2, .int .i64 x9851), (8, .slice p10066 r10064.1.length c10067), (9, .slice p10071 r10064.2.1.length c10072), (10, .int .i64 r10064.2.2.1), (11, .bool r10064.2.2.2), (14, .slice p10439 r10558.2.length c10440), (15, .slice p10444 r10565.2.length c10445), (19, .int .i64 r10565.1), (20, .int .i64 r10573)] w10574 (by kernel_rfl) ?_
  refine W_nil ?_
  refine N_then ?_
  refine G_seq ?_
  refine G_seq ?_
  refine G_region ?_
  refine W_run 2 [(0, .slice p9843 x9841.length c9844), (1, .slice p9848 x9846.length c9849), (2, .int .i64 x9851), (8, .slice p10066 r10064.1.length c10067), (9, .slice p10071 r10064.2.1.length c10072), (10, .int .i64 r10064.2.2.1), (11, .bool r10064.2.2.2), (14, .slice p10439 r10558.2.length c10440), (15, .slice p10444 r10565.2.length c10445), (19, .int .i64 r10565.1), (20, .int .i64 r10573), (127, .bool (decide (r10573 < 0)))] w10574 (by kernel_rfl) ?_
  refine W_nil ?_
  refine N_then ?_
  rcases gx_bif hm with ⟨hc10577, hm⟩ | ⟨hc10577, hm⟩
  · refine G_cond_t (b := (decide (r10573 < 0))) hc10577 (by kernel_rfl) ?_
    refine G_seq ?_
    refine G_region ?_
    refine W_run 1 [(6, .bool false)] w10574 (by kernel_rfl) ?_
    refine W_nil ?_
    refine N_then ?_
    refine G_ret ?_
    refine N_then_ret ?_
    obtain rfl := Option.some.inj hm
    refine N_ret [.bool false] (RVs_cons (RV_tmp (by kernel_rfl)) RVs_nil) ?_
    exact ⟨rfl, M10576.pick [] (by kernel_rfl)⟩
  refine G_cond_f (b := (decide (r10573 < 0))) hc10577 (by kernel_rfl) ?_
  refine G_skip ?_
  refine N_then ?_
  refine G_seq ?_
  refine G_region ?_
  refine W_run 2 [(0, .slice p9843 x9841.length c9844), (1, .slice p9848 x9846.length c9849), (2, .int .i64 x9851), (8, .slice p10066 r10064.1.length c10067), (9, .slice p10071 r10064.2.1.length c10072), (10, .int .i64 r10064.2.2.1), (11, .bool r10064.2.2.2), (14, .slice p10439 r10558.2.length c10440), (15, .slice p10444 r10565.2.length c10445), (19, .int .i64 r10565.1), (20, .int .i64 r10573), (128, .slice p10444 r10565.2.length c10445), (129, .int .i64 r10573)] w10574 (by kernel_rfl) ?_
  obtain ⟨r10578, hr10578, hm⟩ := gx_bind hm
  refine W_call 26 #[.slice p10444 r10565.2.length c10445, .int .i64 r10573] (by kernel_rfl) (by kernel_rfl) ?_
  refine (c_l_heldBalloonS w10574 r10565.2 p10444 c10445 (ho10568.rd M10576 4 (by kernel_rfl) 5 (by kernel_rfl)) r10573 hr10578).mono ?_
  rintro e_ w10579 ⟨rfl, K10580⟩
  have M10581 := M10576.call0 K10580
  refine ⟨_, rfl, ?_⟩
  refine W_run 1 [(0, .slice p9843 x9841.length c9844), (1, .slice p9848 x9846.length c9849), (2, .int .i64 x9851), (8, .slice p10066 r10064.1.length c10067), (9, .slice p10071 r10064.2.1.length c10072), (10, .int .i64 r10064.2.2.1), (11, .bool r10064.2.2.2), (14, .slice p10439 r10558.2.length c10440), (15, .slice p10444 r10565.2.length c10445), (19, .int .i64 r10565.1), (20, .int .i64 r10578)] w10579 (by kernel_rfl) ?_
  refine W_nil ?_
  refine N_then ?_
  refine G_seq ?_
  refine G_seq ?_
  refine G_region ?_
  refine W_run 2 [(0, .slice p9843 x9841.length c9844), (1, .slice p9848 x9846.length c9849), (2, .int .i64 x9851), (8, .slice p10066 r10064.1.length c10067), (9, .slice p10071 r10064.2.1.length c10072), (10, .int .i64 r10064.2.2.1), (11, .bool r10064.2.2.2), (14, .slice p10439 r10558.2.length c10440), (15, .slice p10444 r10565.2.length c10445), (19, .int .i64 r10565.1), (20, .int .i64 r10578), (132, .bool (decide (r10578 < 0)))] w10579 (by kernel_rfl) ?_
  refine W_nil ?_
  refine N_then ?_
  rcases gx_bif hm with ⟨hc10582, hm⟩ | ⟨hc10582, hm⟩
  · refine G_cond_t (b := (decide (r10578 < 0))) hc10582 (by kernel_rfl) ?_
    refine G_seq ?_
    refine G_region ?_
    refine W_run 1 [(6, .bool false)] w10579 (by kernel_rfl) ?_
    refine W_nil ?_
    refine N_then ?_
    refine G_ret ?_
    refine N_then_ret ?_
    obtain rfl := Option.some.inj hm
    refine N_ret [.bool false] (RVs_cons (RV_tmp (by kernel_rfl)) RVs_nil) ?_
    exact ⟨rfl, M10581.pick [] (by kernel_rfl)⟩
  refine G_cond_f (b := (decide (r10578 < 0))) hc10582 (by kernel_rfl) ?_
  refine G_skip ?_
  refine N_then ?_
  refine G_seq ?_
  refine G_seq ?_
  refine G_region ?_
  refine W_run 3 [(0, .slice p9843 x9841.length c9844), (1, .slice p9848 x9846.length c9849), (2, .int .i64 x9851), (8, .slice p10066 r10064.1.length c10067), (9, .slice p10071 r10064.2.1.length c10072), (10, .int .i64 r10064.2.2.1), (11, .bool r10064.2.2.2), (14, .slice p10439 r10558.2.length c10440), (15, .slice p10444 r10565.2.length c10445), (19, .int .i64 r10565.1), (135, .bool (r10578 != r10565.1))] w10579 (by kernel_rfl) ?_
  refine W_nil ?_
  refine N_then ?_
  rcases gx_bif hm with ⟨hc10583, hm⟩ | ⟨hc10583, hm⟩
  · refine G_cond_t (b := (r10578 != r10565.1)) hc10583 (by kernel_rfl) ?_
    refine G_seq ?_
    refine G_region ?_
    refine W_run 1 [(6, .bool false)] w10579 (by kernel_rfl) ?_
    refine W_nil ?_
    refine N_then ?_
    refine G_ret ?_
    refine N_then_ret ?_
    obtain rfl := Option.some.inj hm
    refine N_ret [.bool false] (RVs_cons (RV_tmp (by kernel_rfl)) RVs_nil) ?_
    exact ⟨rfl, M10581.pick [] (by kernel_rfl)⟩
  refine G_cond_f (b := (r10578 != r10565.1)) hc10583 (by kernel_rfl) ?_
  refine G_skip ?_
  refine N_then ?_
  refine G_seq ?_
  refine G_region ?_
  refine W_run 1 [(1, .slice p9848 x9846.length c9849), (2, .int .i64 x9851), (8, .slice p10066 r10064.1.length c10067), (9, .slice p10071 r10064.2.1.length c10072), (10, .int .i64 r10064.2.2.1), (11, .bool r10064.2.2.2), (14, .slice p10439 r10558.2.length c10440), (15, .slice p10444 r10565.2.length c10445), (19, .int .i64 r10565.1), (137, .slice p9843 x9841.length c9844)] w10579 (by kernel_rfl) ?_
  obtain ⟨r10584, hr10584, hm⟩ := gx_bind hm
  refine W_call 15 #[.slice p9843 x9841.length c9844] (by kernel_rfl) (by kernel_rfl) ?_
  refine (c_l_toIntS w10579 x9841 p9843 c9844 (h9845.mem0 M10581) hr10584).mono ?_
  rintro e_ w10590 ⟨p10586, c10587, sg10588, rfl, ho10589, K10591⟩
  have M10592 := M10581.call K10591
  refine ⟨_, rfl, ?_⟩
  refine W_run 1 [(2, .int .i64 x9851), (8, .slice p10066 r10064.1.length c10067), (9, .slice p10071 r10064.2.1.length c10072), (10, .int .i64 r10064.2.2.1), (11, .bool r10064.2.2.2), (14, .slice p10439 r10558.2.length c10440), (15, .slice p10444 r10565.2.length c10445), (19, .int .i64 r10565.1), (138, .slice p10586 r10584.length c10587), (139, .slice p9848 x9846.length c9849)] w10590 (by kernel_rfl) ?_
  obtain ⟨r10593, hr10593, hm⟩ := gx_bind hm
  refine W_call 16 #[.slice p9848 x9846.length c9849] (by kernel_rfl) (by kernel_rfl) ?_
  refine (c_l_toBalloonS w10590 x9846 p9848 c9849 (h9850.mem0 M10592) hr10593).mono ?_
  rintro e_ w10600 ⟨p10595, c10596, sg10597, sg10598, rfl, ho10599, K10601⟩
  have M10602 := M10592.call K10601
  refine ⟨_, rfl, ?_⟩
  refine W_run 1 [(8, .slice p10066 r10064.1.length c10067), (9, .slice p10071 r10064.2.1.length c10072), (10, .int .i64 r10064.2.2.1), (11, .bool r10064.2.2.2), (14, .slice p10439 r10558.2.length c10440), (15, .slice p10444 r10565.2.length c10445), (19, .int .i64 r10565.1), (138, .slice p10586 r10584.length c10587), (140, .slice p10595 r10593.length c10596), (141, .int .i64 x9851)] w10600 (by kernel_rfl) ?_
  obtain ⟨r10603, hr10603, hm⟩ := gx_bind hm
  refine W_call 37 #[.slice p10586 r10584.length c10587, .slice p10595 r10593.length c10596, .int .i64 x9851] (by kernel_rfl) (by kernel_rfl) ?_
  refine (c_i_SettleGuest w10600 r10584 p10586 c10587 (ho10589.rd M10602 6 (by kernel_rfl)) r10593 p10595 c10596 (ho10599.rd M10602 7 (by kernel_rfl) 8 (by kernel_rfl)) x9851 hr10603).mono ?_
  rintro e_ w10615 ⟨p10605, c10606, sg10607, p10610, c10611, sg10612, sg10613, rfl, ho10608, ho10614, K10616⟩
  have M10617 := M10602.call K10616
  refine ⟨_, rfl, ?_⟩
  refine W_run 9 [(8, .slice p10066 r10064.1.length c10067), (9, .slice p10071 r10064.2.1.length c10072), (10, .int .i64 r10064.2.2.1), (11, .bool r10064.2.2.2), (14, .slice p10439 r10558.2.length c10440), (15, .slice p10444 r10565.2.length c10445), (19, .int .i64 r10565.1), (21, .slice p10605 r10603.1.length c10606), (22, .slice p10610 r10603.2.1.length c10611), (23, .int .i64 r10603.2.2.1), (24, .bool r10603.2.2.2)] w10615 (by kernel_rfl) ?_
  refine W_nil ?_
  refine N_then ?_
  refine G_seq ?_
  refine G_seq ?_
  obtain ⟨o10629, ho10630, hm10631⟩ := gx_bind hm
  refine G_meet (fun a w' => Mem [] w w' [sg10559, sg10566, sg10567] ∧ Sat Try.f10.ntmps [(14, .slice p10439 r10558.2.length c10440), (15, .slice p10444 r10565.2.length c10445), (19, .int .i64 r10565.1), (166, .bool o10629)] a) ?_ ?_
  · have hm := ho10630
    refine G_region ?_
    refine W_run 2 [(9, .slice p10071 r10064.2.1.length c10072), (10, .int .i64 r10064.2.2.1), (11, .bool r10064.2.2.2), (14, .slice p10439 r10558.2.length c10440), (15, .slice p10444 r10565.2.length c10445), (19, .int .i64 r10565.1), (22, .slice p10610 r10603.2.1.length c10611), (23, .int .i64 r10603.2.2.1), (24, .bool r10603.2.2.2), (147, .slice p10605 r10603.1.length c10606), (148, .slice p10066 r10064.1.length c10067)] w10615 (by kernel_rfl) ?_
    obtain ⟨r10632, hr10632, hm⟩ := gx_bind hm
    refine W_call 18 #[.slice p10605 r10603.1.length c10606, .slice p10066 r10064.1.length c10067] (by kernel_rfl) (by kernel_rfl) ?_
    refine (c_l_eqIntS w10615 r10603.1 p10605 c10606 (ho10608.rd M10617 9 (by kernel_rfl)) r10064.1 p10066 c10067 (ho10069.rd M10617 0 (by kernel_rfl)) hr10632).mono ?_
    rintro e_ w10633 ⟨rfl, K10634⟩
    have M10635 := M10617.call0 K10634
    refine ⟨_, rfl, ?_⟩
    refine W_run 2 [(9, .slice p10071 r10064.2.1.length c10072), (10, .int .i64 r10064.2.2.1), (11, .bool r10064.2.2.2), (14, .slice p10439 r10558.2.length c10440), (15, .slice p10444 r10565.2.length c10445), (19, .int .i64 r10565.1), (22, .slice p10610 r10603.2.1.length c10611), (23, .int .i64 r10603.2.2.1), (24, .bool r10603.2.2.2), (151, .bool (!r10632))] w10633 (by kernel_rfl) ?_
    rcases gx_bif hm with ⟨hc10636, hm⟩ | ⟨hc10636, hm⟩
    · refine W_known 151 true (by kernel_rfl) hc10636 ?_
      refine W_run 15 [(14, .slice p10439 r10558.2.length c10440), (15, .slice p10444 r10565.2.length c10445), (19, .int .i64 r10565.1), (166, .bool true)] w10633 (by kernel_rfl) ?_
      refine W_nil ?_
      obtain rfl := Option.some.inj hm
      exact N_meet fun a ha => ⟨M10635.pick [3, 4, 5] (by kernel_rfl), ha.sub (by kernel_rfl)⟩
    refine W_known 151 false (by kernel_rfl) hc10636 ?_
    refine W_run 2 [(10, .int .i64 r10064.2.2.1), (11, .bool r10064.2.2.2), (14, .slice p10439 r10558.2.length c10440), (15, .slice p10444 r10565.2.length c10445), (19, .int .i64 r10565.1), (23, .int .i64 r10603.2.2.1), (24, .bool r10603.2.2.2), (151, .bool false), (152, .slice p10610 r10603.2.1.length c10611), (153, .slice p10071 r10064.2.1.length c10072)] w10633 (by kernel_rfl) ?_
    obtain ⟨r10637, hr10637, hm⟩ := gx_bind hm
    refine W_call 19 #[.slice p10610 r10603.2.1.length c10611, .slice p10071 r10064.2.1.length c10072] (by kernel_rfl) (by kernel_rfl) ?_
    refine (c_l_eqBalloonS w10633 r10603.2.1 p10610 c10611 (ho10614.rd M10635 10 (by kernel_rfl) 11 (by kernel_rfl)) r10064.2.1 p10071 c10072 (ho10075.rd M10635 1 (by kernel_rfl) 2 (by kernel_rfl)) hr10637).mono ?_
    rintro e_ w10638 ⟨rfl, K10639⟩
    have M10640 := M10635.call0 K10639
    refine ⟨_, rfl, ?_⟩
    refine W_run 3 [(10, .int .i64 r10064.2.2.1), (11, .bool r10064.2.2.2), (14, .slice p10439 r10558.2.length c10440), (15, .slice p10444 r10565.2.length c10445), (19, .int .i64 r10565.1), (23, .int .i64 r10603.2.2.1), (24, .bool r10603.2.2.2), (157, .bool (!r10637))] w10638 (by kernel_rfl) ?_
    rcases gx_bif hm with ⟨hc10641, hm⟩ | ⟨hc10641, hm⟩
    · refine W_known 157 true (by kernel_rfl) hc10641 ?_
      refine W_run 9 [(14, .slice p10439 r10558.2.length c10440), (15, .slice p10444 r10565.2.length c10445), (19, .int .i64 r10565.1), (166, .bool true)] w10638 (by kernel_rfl) ?_
      refine W_nil ?_
      obtain rfl := Option.some.inj hm
      exact N_meet fun a ha => ⟨M10640.pick [3, 4, 5] (by kernel_rfl), ha.sub (by kernel_rfl)⟩
    refine W_known 157 false (by kernel_rfl) hc10641 ?_
    refine W_run 5 [(11, .bool r10064.2.2.2), (14, .slice p10439 r10558.2.length c10440), (15, .slice p10444 r10565.2.length c10445), (19, .int .i64 r10565.1), (24, .bool r10603.2.2.2), (162, .bool (r10603.2.2.1 != r10064.2.2.1))] w10638 (by kernel_rfl) ?_
    rcases gx_bif hm with ⟨hc10642, hm⟩ | ⟨hc10642, hm⟩
    · refine W_known 162 true (by kernel_rfl) hc10642 ?_
      refine W_run 4 [(14, .slice p10439 r10558.2.length c10440), (15, .slice p10444 r10565.2.length c10445), (19, .int .i64 r10565.1), (166, .bool true)] w10638 (by kernel_rfl) ?_
      refine W_nil ?_
      obtain rfl := Option.some.inj hm
      exact N_meet fun a ha => ⟨M10640.pick [3, 4, 5] (by kernel_rfl), ha.sub (by kernel_rfl)⟩
    refine W_known 162 false (by kernel_rfl) hc10642 ?_
    refine W_run 4 [(14, .slice p10439 r10558.2.length c10440), (15, .slice p10444 r10565.2.length c10445), (19, .int .i64 r10565.1), (166, .bool (!(r10603.2.2.2 == r10064.2.2.2)))] w10638 (by kernel_rfl) ?_
    refine W_nil ?_
    obtain rfl := Option.some.inj hm
    exact N_meet fun a ha => ⟨M10640.pick [3, 4, 5] (by kernel_rfl), ha.sub (by kernel_rfl)⟩
  intro a10645 w10643 ⟨M10644, hS10646⟩
  refine N_use hS10646 ?_
  have hm := hm10631
  refine N_then ?_
  rcases gx_bif hm with ⟨hc10647, hm⟩ | ⟨hc10647, hm⟩
  · refine G_cond_t (b := o10629) hc10647 (by kernel_rfl) ?_
    refine G_seq ?_
    refine G_region ?_
    refine W_run 1 [(6, .bool false)] w10643 (by kernel_rfl) ?_
    refine W_nil ?_
    refine N_then ?_
    refine G_ret ?_
    refine N_then_ret ?_
    obtain rfl := Option.some.inj hm
    refine N_ret [.bool false] (RVs_cons (RV_tmp (by kernel_rfl)) RVs_nil) ?_
    exact ⟨rfl, M10644.pick [] (by kernel_rfl)⟩
  refine G_cond_f (b := o10629) hc10647 (by kernel_rfl) ?_
  refine G_skip ?_
  refine N_then ?_
  refine G_seq ?_
  refine G_region ?_
  refine W_run 1 [(14, .slice p10439 r10558.2.length c10440), (15, .slice p10444 r10565.2.length c10445), (19, .int .i64 r10565.1), (20, .int .i64 1)] w10643 (by kernel_rfl) ?_
  refine W_nil ?_
  refine N_then ?_
  refine G_seq ?_
  refine G_region ?_
  refine W_run 2 [(15, .slice p10444 r10565.2.length c10445), (19, .int .i64 r10565.1), (20, .int .i64 1), (167, .slice p10439 r10558.2.length c10440), (168, .int .i64 1)] w10643 (by kernel_rfl) ?_
  obtain ⟨r10648, hr10648, hm⟩ := gx_bind hm
  refine W_call 29 #[.slice p10439 r10558.2.length c10440, .int .i64 1] (by kernel_rfl) (by kernel_rfl) ?_
  refine (c_l_heldIntS w10643 r10558.2 p10439 c10440 (ho10560.rd M10644 0 (by kernel_rfl)) 1 hr10648).mono ?_
  rintro e_ w10649 ⟨rfl, K10650⟩
  have M10651 := M10644.call0 K10650
  refine ⟨_, rfl, ?_⟩
  refine W_run 1 [(15, .slice p10444 r10565.2.length c10445), (19, .int .i64 r10565.1), (20, .int .i64 r10648)] w10649 (by kernel_rfl) ?_
  refine W_nil ?_
  refine N_then ?_
  refine G_seq ?_
  refine G_seq ?_
  refine G_region ?_
  refine W_run 2 [(15, .slice p10444 r10565.2.length c10445), (19, .int .i64 r10565.1), (20, .int .i64 r10648), (171, .bool (decide (r10648 < 0)))] w10649 (by kernel_rfl) ?_
  refine W_nil ?_
  refine N_then ?_
  rcases gx_bif hm with ⟨hc10652, hm⟩ | ⟨hc10652, hm⟩
  · refine G_cond_t (b := (decide (r10648 < 0))) hc10652 (by kernel_rfl) ?_
    refine G_seq ?_
    refine G_region ?_
    refine W_run 1 [(6, .bool false)] w10649 (by kernel_rfl) ?_
    refine W_nil ?_
    refine N_then ?_
    refine G_ret ?_
    refine N_then_ret ?_
    obtain rfl := Option.some.inj hm
    refine N_ret [.bool false] (RVs_cons (RV_tmp (by kernel_rfl)) RVs_nil) ?_
    exact ⟨rfl, M10651.pick [] (by kernel_rfl)⟩
  refine G_cond_f (b := (decide (r10648 < 0))) hc10652 (by kernel_rfl) ?_
  refine G_skip ?_
  refine N_then ?_
  refine G_seq ?_
  refine G_region ?_
  refine W_run 2 [(19, .int .i64 r10565.1), (20, .int .i64 r10648), (172, .slice p10444 r10565.2.length c10445), (173, .int .i64 r10648)] w10649 (by kernel_rfl) ?_
  obtain ⟨r10653, hr10653, hm⟩ := gx_bind hm
  refine W_call 26 #[.slice p10444 r10565.2.length c10445, .int .i64 r10648] (by kernel_rfl) (by kernel_rfl) ?_
  refine (c_l_heldBalloonS w10649 r10565.2 p10444 c10445 (ho10568.rd M10651 1 (by kernel_rfl) 2 (by kernel_rfl)) r10648 hr10653).mono ?_
  rintro e_ w10654 ⟨rfl, K10655⟩
  have M10656 := M10651.call0 K10655
  refine ⟨_, rfl, ?_⟩
  refine W_run 1 [(19, .int .i64 r10565.1), (20, .int .i64 r10653)] w10654 (by kernel_rfl) ?_
  refine W_nil ?_
  refine N_then ?_
  refine G_seq ?_
  refine G_seq ?_
  refine G_region ?_
  refine W_run 2 [(19, .int .i64 r10565.1), (20, .int .i64 r10653), (176, .bool (decide (r10653 < 0)))] w10654 (by kernel_rfl) ?_
  refine W_nil ?_
  refine N_then ?_
  rcases gx_bif hm with ⟨hc10657, hm⟩ | ⟨hc10657, hm⟩
  · refine G_cond_t (b := (decide (r10653 < 0))) hc10657 (by kernel_rfl) ?_
    refine G_seq ?_
    refine G_region ?_
    refine W_run 1 [(6, .bool false)] w10654 (by kernel_rfl) ?_
    refine W_nil ?_
    refine N_then ?_
    refine G_ret ?_
    refine N_then_ret ?_
    obtain rfl := Option.some.inj hm
    refine N_ret [.bool false] (RVs_cons (RV_tmp (by kernel_rfl)) RVs_nil) ?_
    exact ⟨rfl, M10656.pick [] (by kernel_rfl)⟩
  refine G_cond_f (b := (decide (r10653 < 0))) hc10657 (by kernel_rfl) ?_
  refine G_skip ?_
  refine N_then ?_
  refine G_seq ?_
  refine G_seq ?_
  refine G_region ?_
  refine W_run 3 [(179, .bool (r10653 != r10565.1))] w10654 (by kernel_rfl) ?_
  refine W_nil ?_
  refine N_then ?_
  rcases gx_bif hm with ⟨hc10658, hm⟩ | ⟨hc10658, hm⟩
  · refine G_cond_t (b := (r10653 != r10565.1)) hc10658 (by kernel_rfl) ?_
    refine G_seq ?_
    refine G_region ?_
    refine W_run 1 [(6, .bool false)] w10654 (by kernel_rfl) ?_
    refine W_nil ?_
    refine N_then ?_
    refine G_ret ?_
    refine N_then_ret ?_
    obtain rfl := Option.some.inj hm
    refine N_ret [.bool false] (RVs_cons (RV_tmp (by kernel_rfl)) RVs_nil) ?_
    exact ⟨rfl, M10656.pick [] (by kernel_rfl)⟩
  refine G_cond_f (b := (r10653 != r10565.1)) hc10658 (by kernel_rfl) ?_
  refine G_skip ?_
  refine N_then ?_
  refine G_seq ?_
  refine G_region ?_
  refine W_run 1 [(6, .bool true)] w10654 (by kernel_rfl) ?_
  refine W_nil ?_
  refine N_then ?_
  refine G_ret ?_
  obtain rfl := Option.some.inj hm
  refine N_ret [.bool true] (RVs_cons (RV_tmp (by kernel_rfl)) RVs_nil) ?_
  exact ⟨rfl, M10656.pick [] (by kernel_rfl)⟩
theorem c_l_rBig (w : World) (x10664 : List Int) (p10666 : Option Addr) (c10667 : Nat) (h10668 : rdS Gx.encU8 w x10664 p10666 c10667) {r : Bool} (hm : M.l_rBig x10664 = some r) :
    Calls Try.prog 38 #[.slice p10666 x10664.length c10667] w fun e w' => e = .returned (.bool r) ∧ Mem [] w w' [] := by
  unfold M.l_rBig at hm
  refine C_enter Try.func38 rfl (by kernel_rfl) ?_
  have M0 := Mem.refl [] w
  refine G_seq ?_
  refine G_region ?_
  refine W_run 1 [(0, .slice p10666 x10664.length c10667)] w (by kernel_rfl) ?_
  refine W_nil ?_
  refine N_then ?_
  refine G_seq ?_
  refine G_region ?_
  refine W_run 4 [(2, .bool (decide ((x10664.length : Int) > 65536)))] w (by kernel_rfl) ?_
  refine W_nil ?_
  refine N_then ?_
  refine G_ret ?_
  obtain rfl := Option.some.inj hm
  refine N_ret [.bool (decide ((x10664.length : Int) > 65536))] (RVs_cons (RV_tmp (by kernel_rfl)) RVs_nil) ?_
  exact ⟨rfl, M0.pick [] (by kernel_rfl)⟩
theorem c_s_l1Cur_next (w : World) (x10725 : l1Cur) (p10729 : Option Addr) (c10730 : Nat) (h10731 : rdS Gx.encU8 w x10725.code p10729 c10730) (b10727 : Nat) (hA : ∀ q ∈ List.flatten [[(b10727, .cells ⟨[.slice p10729 x10725.code.length c10730, .int .i64 x10725.at_, .int .u64 x10725.seed]⟩ 78 (0, 0))]], w.heap[q.1]? = some q.2) (hN : (idsOf [[(b10727, .cells ⟨[.slice p10729 x10725.code.length c10730, .int .i64 x10725.at_, .int .u64 x10725.seed]⟩ 78 (0, 0))]]).Nodup) (hap10732 : apartX (idsOf [[(b10727, .cells ⟨[.slice p10729 x10725.code.length c10730, .int .i64 x10725.at_, .int .u64 x10725.seed]⟩ 78 (0, 0))]]) x10725.code p10729) {r : Int × Int × Int} (hm : M.s_l1Cur_next x10725 = some r) :
    Calls Try.prog 90 #[.pointer (some ⟨b10727, 0, none⟩)] w fun e w' => e = .returned (.int .i64 r.1) ∧ Mem (idsOf [[(b10727, .cells ⟨[.slice p10729 x10725.code.length c10730, .int .i64 x10725.at_, .int .u64 x10725.seed]⟩ 78 (0, 0))]]) w w' [[(b10727, .cells ⟨[.slice p10729 x10725.code.length c10730, .int .i64 r.2.1, .int .u64 r.2.2]⟩ 78 (0, 0))]] := by
  unfold M.s_l1Cur_next at hm
  refine C_enter Try.func90 rfl (by kernel_rfl) ?_
  have M0 := Mem.start' w [[(b10727, .cells ⟨[.slice p10729 x10725.code.length c10730, .int .i64 x10725.at_, .int .u64 x10725.seed]⟩ 78 (0, 0))]] hA hN
  refine G_seq ?_
  refine G_region ?_
  refine W_run 1 [(0, .pointer (some ⟨b10727, 0, none⟩))] w (by kernel_rfl) ?_
  refine W_nil ?_
  refine N_then ?_
  refine G_seq ?_
  refine G_region ?_
  refine W_run 1 [(0, .pointer (some ⟨b10727, 0, none⟩)), (3, .int .i64 0)] w (by kernel_rfl) ?_
  refine W_nil ?_
  refine N_then ?_
  refine G_seq ?_
  refine G_seq ?_
  refine G_quiet (by kernel_rfl) (by kernel_rfl) M0 ?_
  refine Z_runs [.pointer (some ⟨b10727, 0, none⟩), .pointer (some ⟨b10727, 0, none⟩), .pointer (some ⟨b10727, 1, none⟩)] [(0, .pointer (some ⟨b10727, 0, none⟩)), (3, .int .i64 0), (6, .pointer (some ⟨b10727, 1, none⟩))] (fun w_ => by kernel_rfl) (by kernel_rfl) ?_
  refine Z_val (.int .i64 x10725.at_) (by kernel_rfl) (fun w_ M_ => (E_load (e := 78) (fr := (0, 0)) _ _ false 1 b10727 1 [.slice p10729 x10725.code.length c10730, .int .i64 x10725.at_, .int .u64 x10725.seed] (.int .i64 x10725.at_) rfl (by kernel_rfl) (by kernel_rfl) (by kernel_rfl) (M_.blk 0 (b := b10727) (o := .cells ⟨[.slice p10729 x10725.code.length c10730, .int .i64 x10725.at_, .int .u64 x10725.seed]⟩ 78 (0, 0)) (by kernel_rfl)))) ?_
  refine Z_runs [.pointer (some ⟨b10727, 0, none⟩), .pointer (some ⟨b10727, 0, none⟩), .pointer (some ⟨b10727, 0, none⟩)] [(0, .pointer (some ⟨b10727, 0, none⟩)), (3, .int .i64 0), (7, .int .i64 x10725.at_), (10, .pointer (some ⟨b10727, 0, none⟩))] (fun w_ => by kernel_rfl) (by kernel_rfl) ?_
  refine Z_val (.slice p10729 x10725.code.length c10730) (by kernel_rfl) (fun w_ M_ => (E_load (e := 78) (fr := (0, 0)) _ _ false 1 b10727 0 [.slice p10729 x10725.code.length c10730, .int .i64 x10725.at_, .int .u64 x10725.seed] (.slice p10729 x10725.code.length c10730) rfl (by kernel_rfl) (by kernel_rfl) (by kernel_rfl) (M_.blk 0 (b := b10727) (o := .cells ⟨[.slice p10729 x10725.code.length c10730, .int .i64 x10725.at_, .int .u64 x10725.seed]⟩ 78 (0, 0)) (by kernel_rfl)))) ?_
  refine Z_runs [.int .i64 (x10725.code.length : Int), .bool (decide (x10725.at_ < (x10725.code.length : Int)))] [(0, .pointer (some ⟨b10727, 0, none⟩)), (3, .int .i64 0), (13, .bool (decide (x10725.at_ < (x10725.code.length : Int))))] (fun w_ => by kernel_rfl) (by kernel_rfl) ?_
  refine Z_end fun w10733 M10734 => ?_
  refine N_then ?_
  obtain ⟨o10739, ho10740, hm10741⟩ := gx_bind hm
  refine G_meet (fun a w' => Mem (idsOf [[(b10727, .cells ⟨[.slice p10729 x10725.code.length c10730, .int .i64 x10725.at_, .int .u64 x10725.seed]⟩ 78 (0, 0))]]) w w' [[(b10727, .cells ⟨[.slice p10729 x10725.code.length c10730, .int .i64 x10725.at_, .int .u64 x10725.seed]⟩ 78 (0, 0))]] ∧ Sat Try.f90.ntmps [(0, .pointer (some ⟨b10727, 0, none⟩)), (3, .int .i64 o10739)] a) ?_ ?_
  · have hm := ho10740
    rcases gx_bif hm with ⟨hc10742, hm⟩ | ⟨hc10742, hm⟩
    · refine G_cond_t (b := (decide (x10725.at_ < (x10725.code.length : Int)))) hc10742 (by kernel_rfl) ?_
      refine G_quiet (by kernel_rfl) (by kernel_rfl) M10734 ?_
      refine Z_runs [.pointer (some ⟨b10727, 0, none⟩), .pointer (some ⟨b10727, 0, none⟩), .pointer (some ⟨b10727, 0, none⟩)] [(0, .pointer (some ⟨b10727, 0, none⟩)), (3, .int .i64 0), (16, .pointer (some ⟨b10727, 0, none⟩))] (fun w_ => by kernel_rfl) (by kernel_rfl) ?_
      refine Z_val (.slice p10729 x10725.code.length c10730) (by kernel_rfl) (fun w_ M_ => (E_load (e := 78) (fr := (0, 0)) _ _ false 1 b10727 0 [.slice p10729 x10725.code.length c10730, .int .i64 x10725.at_, .int .u64 x10725.seed] (.slice p10729 x10725.code.length c10730) rfl (by kernel_rfl) (by kernel_rfl) (by kernel_rfl) (M_.blk 0 (b := b10727) (o := .cells ⟨[.slice p10729 x10725.code.length c10730, .int .i64 x10725.at_, .int .u64 x10725.seed]⟩ 78 (0, 0)) (by kernel_rfl)))) ?_
      refine Z_runs [.pointer (some ⟨b10727, 0, none⟩), .pointer (some ⟨b10727, 0, none⟩), .pointer (some ⟨b10727, 1, none⟩)] [(0, .pointer (some ⟨b10727, 0, none⟩)), (3, .int .i64 0), (17, .slice p10729 x10725.code.length c10730), (20, .pointer (some ⟨b10727, 1, none⟩))] (fun w_ => by kernel_rfl) (by kernel_rfl) ?_
      refine Z_val (.int .i64 x10725.at_) (by kernel_rfl) (fun w_ M_ => (E_load (e := 78) (fr := (0, 0)) _ _ false 1 b10727 1 [.slice p10729 x10725.code.length c10730, .int .i64 x10725.at_, .int .u64 x10725.seed] (.int .i64 x10725.at_) rfl (by kernel_rfl) (by kernel_rfl) (by kernel_rfl) (M_.blk 0 (b := b10727) (o := .cells ⟨[.slice p10729 x10725.code.length c10730, .int .i64 x10725.at_, .int .u64 x10725.seed]⟩ 78 (0, 0)) (by kernel_rfl)))) ?_
      obtain ⟨y10743, hy10743, hm⟩ := gx_bind hm
      refine Z_val (elemP p10729 (x10725.at_.toNat * 1)) (by kernel_rfl) (fun w_ M_ => (E_index (E := Gx.encU8) _ _ _ x10725.code.length c10730 .i64 x10725.at_ 1 (y := y10743) rfl (by kernel_rfl) (by kernel_rfl) (by kernel_rfl) (h10731.memX hap10732 M_) rfl hy10743)) ?_
      refine Z_val (.int .u8 y10743) (by kernel_rfl) (fun w_ M_ => (E_loadE (E := Gx.encU8) _ _ false 1 x10725.at_ 0 (x10725.at_.toNat * 1) y10743 (.int .u8 y10743) rfl (by kernel_rfl) (by kernel_rfl) (by kernel_rfl) (h10731.memX hap10732 M_) hy10743 rfl)) ?_
      refine Z_runs [.int .i64 (w64 y10743), .int .i64 (w64 y10743)] [(0, .pointer (some ⟨b10727, 0, none⟩)), (3, .int .i64 (w64 y10743))] (fun w_ => by kernel_rfl) (by kernel_rfl) ?_
      refine Z_end fun w10744 M10745 => ?_
      obtain rfl := Option.some.inj hm
      exact N_meet fun a ha => ⟨M10745.pick [0] (by kernel_rfl), ha.sub (by kernel_rfl)⟩
    refine G_cond_f (b := (decide (x10725.at_ < (x10725.code.length : Int)))) hc10742 (by kernel_rfl) ?_
    refine G_skip ?_
    obtain rfl := Option.some.inj hm
    exact N_meet fun a ha => ⟨M10734.pick [0] (by kernel_rfl), ha.sub (by kernel_rfl)⟩
  intro a10748 w10746 ⟨M10747, hS10749⟩
  refine N_use hS10749 ?_
  have hm := hm10741
  refine N_then ?_
  refine G_seq ?_
  refine G_region ?_
  refine W_run 3 [(0, .pointer (some ⟨b10727, 0, none⟩)), (3, .int .i64 o10739), (25, .pointer (some ⟨b10727, 0, none⟩)), (27, .pointer (some ⟨b10727, 1, none⟩))] w10746 (by kernel_rfl) ?_
  refine W_val (.int .i64 x10725.at_) w10746 (by kernel_rfl) (E_load (e := 78) (fr := (0, 0)) _ _ false 1 b10727 1 [.slice p10729 x10725.code.length c10730, .int .i64 x10725.at_, .int .u64 x10725.seed] (.int .i64 x10725.at_) rfl (by kernel_rfl) (by kernel_rfl) (by kernel_rfl) (M10747.blk 0 (b := b10727) (o := .cells ⟨[.slice p10729 x10725.code.length c10730, .int .i64 x10725.at_, .int .u64 x10725.seed]⟩ 78 (0, 0)) (by kernel_rfl))) ?_
  refine W_run 3 [(0, .pointer (some ⟨b10727, 0, none⟩)), (3, .int .i64 o10739), (29, .int .i64 (w64 (x10725.at_ + 1))), (31, .pointer (some ⟨b10727, 1, none⟩))] w10746 (by kernel_rfl) ?_
  refine W_store _ _ _ false 1 b10727 1 [.slice p10729 x10725.code.length c10730, .int .i64 x10725.at_, .int .u64 x10725.seed] 78 (.int .i64 (w64 (x10725.at_ + 1))) 0 [.slice p10729 x10725.code.length c10730, .int .i64 (w64 (x10725.at_ + 1)), .int .u64 x10725.seed] M10747 (by kernel_rfl) rfl (by kernel_rfl) (by kernel_rfl) (by kernel_rfl) (by kernel_rfl) (by kernel_rfl) (by kernel_rfl) (by kernel_rfl) (by kernel_rfl) ?_
  intro w10750 M10751
  refine W_nil ?_
  refine N_then ?_
  refine G_seq ?_
  refine G_region ?_
  refine W_run 4 [(0, .pointer (some ⟨b10727, 0, none⟩)), (3, .int .i64 o10739), (32, .pointer (some ⟨b10727, 0, none⟩)), (35, .pointer (some ⟨b10727, 2, none⟩))] w10750 (by kernel_rfl) ?_
  refine W_val (.int .u64 x10725.seed) w10750 (by kernel_rfl) (E_load (e := 78) (fr := (0, 0)) _ _ false 1 b10727 2 [.slice p10729 x10725.code.length c10730, .int .i64 (w64 (x10725.at_ + 1)), .int .u64 x10725.seed] (.int .u64 x10725.seed) rfl (by kernel_rfl) (by kernel_rfl) (by kernel_rfl) (M10751.blk 0 (b := b10727) (o := .cells ⟨[.slice p10729 x10725.code.length c10730, .int .i64 (w64 (x10725.at_ + 1)), .int .u64 x10725.seed]⟩ 78 (0, 0)) (by kernel_rfl))) ?_
  refine W_run 7 [(0, .pointer (some ⟨b10727, 0, none⟩)), (3, .int .i64 o10739), (41, .int .u64 (IntKind.u64.wrap ((IntKind.u64.wrap ((IntKind.u64.wrap (x10725.seed * 6364136223846793005)) + (IntKind.u64.wrap o10739))) + 843843))), (43, .pointer (some ⟨b10727, 2, none⟩))] w10750 (by kernel_rfl) ?_
  refine W_store _ _ _ false 1 b10727 2 [.slice p10729 x10725.code.length c10730, .int .i64 (w64 (x10725.at_ + 1)), .int .u64 x10725.seed] 78 (.int .u64 (IntKind.u64.wrap ((IntKind.u64.wrap ((IntKind.u64.wrap (x10725.seed * 6364136223846793005)) + (IntKind.u64.wrap o10739))) + 843843))) 0 [.slice p10729 x10725.code.length c10730, .int .i64 (w64 (x10725.at_ + 1)), .int .u64 (IntKind.u64.wrap ((IntKind.u64.wrap ((IntKind.u64.wrap (x10725.seed * 6364136223846793005)) + (IntKind.u64.wrap o10739))) + 843843))] M10751 (by kernel_rfl) rfl (by kernel_rfl) (by kernel_rfl) (by kernel_rfl) (by kernel_rfl) (by kernel_rfl) (by kernel_rfl) (by kernel_rfl) (by kernel_rfl) ?_
  intro w10752 M10753
  refine W_nil ?_
  refine N_then ?_
  refine G_seq ?_
  refine G_seq ?_
  refine G_quiet (by kernel_rfl) (by kernel_rfl) M10753 ?_
  refine Z_runs [.pointer (some ⟨b10727, 0, none⟩), .pointer (some ⟨b10727, 0, none⟩), .pointer (some ⟨b10727, 1, none⟩)] [(0, .pointer (some ⟨b10727, 0, none⟩)), (3, .int .i64 o10739), (46, .pointer (some ⟨b10727, 1, none⟩))] (fun w_ => by kernel_rfl) (by kernel_rfl) ?_
  refine Z_val (.int .i64 (w64 (x10725.at_ + 1))) (by kernel_rfl) (fun w_ M_ => (E_load (e := 78) (fr := (0, 0)) _ _ false 1 b10727 1 [.slice p10729 x10725.code.length c10730, .int .i64 (w64 (x10725.at_ + 1)), .int .u64 (IntKind.u64.wrap ((IntKind.u64.wrap ((IntKind.u64.wrap (x10725.seed * 6364136223846793005)) + (IntKind.u64.wrap o10739))) + 843843))] (.int .i64 (w64 (x10725.at_ + 1))) rfl (by kernel_rfl) (by kernel_rfl) (by kernel_rfl) (M_.blk 0 (b := b10727) (o := .cells ⟨[.slice p10729 x10725.code.length c10730, .int .i64 (w64 (x10725.at_ + 1)), .int .u64 (IntKind.u64.wrap ((IntKind.u64.wrap ((IntKind.u64.wrap (x10725.seed * 6364136223846793005)) + (IntKind.u64.wrap o10739))) + 843843))]⟩ 78 (0, 0)) (by kernel_rfl)))) ?_
  refine Z_runs [.pointer (some ⟨b10727, 0, none⟩), .pointer (some ⟨b10727, 0, none⟩), .pointer (some ⟨b10727, 0, none⟩)] [(0, .pointer (some ⟨b10727, 0, none⟩)), (3, .int .i64 o10739), (47, .int .i64 (w64 (x10725.at_ + 1))), (50, .pointer (some ⟨b10727, 0, none⟩))] (fun w_ => by kernel_rfl) (by kernel_rfl) ?_
  refine Z_val (.slice p10729 x10725.code.length c10730) (by kernel_rfl) (fun w_ M_ => (E_load (e := 78) (fr := (0, 0)) _ _ false 1 b10727 0 [.slice p10729 x10725.code.length c10730, .int .i64 (w64 (x10725.at_ + 1)), .int .u64 (IntKind.u64.wrap ((IntKind.u64.wrap ((IntKind.u64.wrap (x10725.seed * 6364136223846793005)) + (IntKind.u64.wrap o10739))) + 843843))] (.slice p10729 x10725.code.length c10730) rfl (by kernel_rfl) (by kernel_rfl) (by kernel_rfl) (M_.blk 0 (b := b10727) (o := .cells ⟨[.slice p10729 x10725.code.length c10730, .int .i64 (w64 (x10725.at_ + 1)), .int .u64 (IntKind.u64.wrap ((IntKind.u64.wrap ((IntKind.u64.wrap (x10725.seed * 6364136223846793005)) + (IntKind.u64.wrap o10739))) + 843843))]⟩ 78 (0, 0)) (by kernel_rfl)))) ?_
  refine Z_runs [.int .i64 (x10725.code.length : Int), .bool (decide ((w64 (x10725.at_ + 1)) ≤ (x10725.code.length : Int)))] [(0, .pointer (some ⟨b10727, 0, none⟩)), (3, .int .i64 o10739), (53, .bool (decide ((w64 (x10725.at_ + 1)) ≤ (x10725.code.length : Int))))] (fun w_ => by kernel_rfl) (by kernel_rfl) ?_
  refine Z_end fun w10754 M10755 => ?_
  refine N_then ?_
  rcases gx_bif hm with ⟨hc10756, hm⟩ | ⟨hc10756, hm⟩
  · refine G_cond_t (b := (decide ((w64 (x10725.at_ + 1)) ≤ (x10725.code.length : Int)))) hc10756 (by kernel_rfl) ?_
    refine G_seq ?_
    refine G_region ?_
    refine W_run 2 [(2, .int .i64 o10739)] w10754 (by kernel_rfl) ?_
    refine W_nil ?_
    refine N_then ?_
    refine G_ret ?_
    refine N_then_ret ?_
    obtain rfl := Option.some.inj hm
    refine N_ret [.int .i64 o10739] (RVs_cons (RV_tmp (by kernel_rfl)) RVs_nil) ?_
    exact ⟨rfl, M10755.pick [0] (by kernel_rfl)⟩
  refine G_cond_f (b := (decide ((w64 (x10725.at_ + 1)) ≤ (x10725.code.length : Int)))) hc10756 (by kernel_rfl) ?_
  refine G_skip ?_
  refine N_then ?_
  refine G_seq ?_
  refine G_region ?_
  refine W_run 3 [(57, .pointer (some ⟨b10727, 2, none⟩))] w10754 (by kernel_rfl) ?_
  refine W_val (.int .u64 (IntKind.u64.wrap ((IntKind.u64.wrap ((IntKind.u64.wrap (x10725.seed * 6364136223846793005)) + (IntKind.u64.wrap o10739))) + 843843))) w10754 (by kernel_rfl) (E_load (e := 78) (fr := (0, 0)) _ _ false 1 b10727 2 [.slice p10729 x10725.code.length c10730, .int .i64 (w64 (x10725.at_ + 1)), .int .u64 (IntKind.u64.wrap ((IntKind.u64.wrap ((IntKind.u64.wrap (x10725.seed * 6364136223846793005)) + (IntKind.u64.wrap o10739))) + 843843))] (.int .u64 (IntKind.u64.wrap ((IntKind.u64.wrap ((IntKind.u64.wrap (x10725.seed * 6364136223846793005)) + (IntKind.u64.wrap o10739))) + 843843))) rfl (by kernel_rfl) (by kernel_rfl) (by kernel_rfl) (M10755.blk 0 (b := b10727) (o := .cells ⟨[.slice p10729 x10725.code.length c10730, .int .i64 (w64 (x10725.at_ + 1)), .int .u64 (IntKind.u64.wrap ((IntKind.u64.wrap ((IntKind.u64.wrap (x10725.seed * 6364136223846793005)) + (IntKind.u64.wrap o10739))) + 843843))]⟩ 78 (0, 0)) (by kernel_rfl))) ?_
  refine W_run 4 [(2, .int .i64 (w64 (gxAnd .u64 ((IntKind.u64.wrap ((IntKind.u64.wrap ((IntKind.u64.wrap (x10725.seed * 6364136223846793005)) + (IntKind.u64.wrap o10739))) + 843843)).fdiv (2 ^ 40)) 255)))] w10754 (by kernel_rfl) ?_
  refine W_nil ?_
  refine N_then ?_
  refine G_ret ?_
  obtain rfl := Option.some.inj hm
  refine N_ret [.int .i64 (w64 (gxAnd .u64 ((IntKind.u64.wrap ((IntKind.u64.wrap ((IntKind.u64.wrap (x10725.seed * 6364136223846793005)) + (IntKind.u64.wrap o10739))) + 843843)).fdiv (2 ^ 40)) 255))] (RVs_cons (RV_tmp (by kernel_rfl)) RVs_nil) ?_
  exact ⟨rfl, M10755.pick [0] (by kernel_rfl)⟩
theorem c_s_l1Cur_pick (w : World) (x10715 : l1Cur) (p10719 : Option Addr) (c10720 : Nat) (h10721 : rdS Gx.encU8 w x10715.code p10719 c10720) (b10717 : Nat) (x10723 : Int) (hA : ∀ q ∈ List.flatten [[(b10717, .cells ⟨[.slice p10719 x10715.code.length c10720, .int .i64 x10715.at_, .int .u64 x10715.seed]⟩ 78 (0, 0))]], w.heap[q.1]? = some q.2) (hN : (idsOf [[(b10717, .cells ⟨[.slice p10719 x10715.code.length c10720, .int .i64 x10715.at_, .int .u64 x10715.seed]⟩ 78 (0, 0))]]).Nodup) (hap10722 : apartX (idsOf [[(b10717, .cells ⟨[.slice p10719 x10715.code.length c10720, .int .i64 x10715.at_, .int .u64 x10715.seed]⟩ 78 (0, 0))]]) x10715.code p10719) {r : Int × Int × Int} (hm : M.s_l1Cur_pick x10715 x10723 = some r) :
    Calls Try.prog 76 #[.pointer (some ⟨b10717, 0, none⟩), .int .i64 x10723] w fun e w' => e = .returned (.int .i64 r.1) ∧ Mem (idsOf [[(b10717, .cells ⟨[.slice p10719 x10715.code.length c10720, .int .i64 x10715.at_, .int .u64 x10715.seed]⟩ 78 (0, 0))]]) w w' [[(b10717, .cells ⟨[.slice p10719 x10715.code.length c10720, .int .i64 r.2.1, .int .u64 r.2.2]⟩ 78 (0, 0))]] := by
  unfold M.s_l1Cur_pick at hm
  refine C_enter Try.func76 rfl (by kernel_rfl) ?_
  have M0 := Mem.start' w [[(b10717, .cells ⟨[.slice p10719 x10715.code.length c10720, .int .i64 x10715.at_, .int .u64 x10715.seed]⟩ 78 (0, 0))]] hA hN
  refine G_seq ?_
  refine G_region ?_
  refine W_run 1 [(0, .pointer (some ⟨b10717, 0, none⟩)), (1, .int .i64 x10723)] w (by kernel_rfl) ?_
  refine W_nil ?_
  refine N_then ?_
  refine G_seq ?_
  refine G_seq ?_
  refine G_region ?_
  refine W_run 2 [(0, .pointer (some ⟨b10717, 0, none⟩)), (1, .int .i64 x10723), (7, .bool (decide (x10723 ≤ 1)))] w (by kernel_rfl) ?_
  refine W_nil ?_
  refine N_then ?_
  rcases gx_bif hm with ⟨hc10724, hm⟩ | ⟨hc10724, hm⟩
  · refine G_cond_t (b := (decide (x10723 ≤ 1))) hc10724 (by kernel_rfl) ?_
    refine G_seq ?_
    refine G_region ?_
    refine W_run 1 [(4, .int .i64 0)] w (by kernel_rfl) ?_
    refine W_nil ?_
    refine N_then ?_
    refine G_ret ?_
    refine N_then_ret ?_
    obtain rfl := Option.some.inj hm
    refine N_ret [.int .i64 0] (RVs_cons (RV_tmp (by kernel_rfl)) RVs_nil) ?_
    exact ⟨rfl, M0.pick [0] (by kernel_rfl)⟩
  refine G_cond_f (b := (decide (x10723 ≤ 1))) hc10724 (by kernel_rfl) ?_
  refine G_skip ?_
  refine N_then ?_
  refine G_seq ?_
  refine G_region ?_
  refine W_run 1 [(0, .pointer (some ⟨b10717, 0, none⟩)), (1, .int .i64 x10723), (8, .pointer (some ⟨b10717, 0, none⟩))] w (by kernel_rfl) ?_
  obtain ⟨r10757, hr10757, hm⟩ := gx_bind hm
  refine W_call 90 #[.pointer (some ⟨b10717, 0, none⟩)] (by kernel_rfl) (by kernel_rfl) ?_
  refine (c_s_l1Cur_next w x10715 p10719 c10720 (h10721.memX hap10722 M0) b10717 (M0.hasPick [0]) (M0.nodupPick [0] (by kernel_rfl)) (apartX.old h10721 hap10722 M0 [0]) hr10757).mono ?_
  rintro e_ w10758 ⟨rfl, K10759⟩
  have M10760 := M0.callF' [0] [] (by kernel_rfl) K10759
  refine ⟨_, rfl, ?_⟩
  refine W_run 1 [(0, .pointer (some ⟨b10717, 0, none⟩)), (1, .int .i64 x10723), (5, .int .i64 r10757.1)] w10758 (by kernel_rfl) ?_
  refine W_nil ?_
  refine N_then ?_
  refine G_seq ?_
  refine G_seq ?_
  refine G_region ?_
  refine W_run 2 [(0, .pointer (some ⟨b10717, 0, none⟩)), (1, .int .i64 x10723), (5, .int .i64 r10757.1), (11, .bool (decide (x10723 > 200)))] w10758 (by kernel_rfl) ?_
  refine W_nil ?_
  refine N_then ?_
  obtain ⟨o10766, ho10767, hm10768⟩ := gx_bind hm
  refine G_meet (fun a w' => Mem (idsOf [[(b10717, .cells ⟨[.slice p10719 x10715.code.length c10720, .int .i64 x10715.at_, .int .u64 x10715.seed]⟩ 78 (0, 0))]]) w w' [[(b10717, .cells ⟨[.slice p10719 x10715.code.length c10720, .int .i64 o10766.2.1, .int .u64 o10766.2.2]⟩ 78 (0, 0))]] ∧ Sat Try.f76.ntmps [(1, .int .i64 x10723), (5, .int .i64 o10766.1)] a) ?_ ?_
  · have hm := ho10767
    rcases gx_bif hm with ⟨hc10769, hm⟩ | ⟨hc10769, hm⟩
    · refine G_cond_t (b := (decide (x10723 > 200))) hc10769 (by kernel_rfl) ?_
      refine G_region ?_
      refine W_run 3 [(1, .int .i64 x10723), (5, .int .i64 r10757.1), (13, .int .i64 (w64 (r10757.1 * 256))), (14, .pointer (some ⟨b10717, 0, none⟩))] w10758 (by kernel_rfl) ?_
      obtain ⟨r10770, hr10770, hm⟩ := gx_bind hm
      refine W_call 90 #[.pointer (some ⟨b10717, 0, none⟩)] (by kernel_rfl) (by kernel_rfl) ?_
      refine (c_s_l1Cur_next w10758 (⟨x10715.code, r10757.2.1, r10757.2.2⟩ : l1Cur) p10719 c10720 (h10721.memX hap10722 M10760) b10717 (M10760.hasPick [0]) (M10760.nodupPick [0] (by kernel_rfl)) (apartX.old h10721 hap10722 M10760 [0]) hr10770).mono ?_
      rintro e_ w10771 ⟨rfl, K10772⟩
      have M10773 := M10760.callF' [0] [] (by kernel_rfl) K10772
      refine ⟨_, rfl, ?_⟩
      refine W_run 2 [(1, .int .i64 x10723), (5, .int .i64 (w64 ((w64 (r10757.1 * 256)) + r10770.1)))] w10771 (by kernel_rfl) ?_
      refine W_nil ?_
      obtain rfl := Option.some.inj hm
      exact N_meet fun a ha => ⟨M10773.pick [0] (by kernel_rfl), ha.sub (by kernel_rfl)⟩
    refine G_cond_f (b := (decide (x10723 > 200))) hc10769 (by kernel_rfl) ?_
    refine G_skip ?_
    obtain rfl := Option.some.inj hm
    exact N_meet fun a ha => ⟨M10760.pick [0] (by kernel_rfl), ha.sub (by kernel_rfl)⟩
  intro a10776 w10774 ⟨M10775, hS10777⟩
  refine N_use hS10777 ?_
  have hm := hm10768
  refine N_then ?_
  refine G_seq ?_
  refine G_region ?_
  refine W_run 2 [(17, .int .i64 o10766.1), (18, .int .i64 x10723)] w10774 (by kernel_rfl) ?_
  obtain ⟨q10778, hq10778, hm⟩ := gx_bind hm
  refine W_val (.int .i64 q10778) w10774 (by kernel_rfl) (E_rem _ _ _ _ o10766.1 x10723 q10778 rfl (by kernel_rfl) (by kernel_rfl) hq10778) ?_
  refine W_run 1 [(4, .int .i64 q10778)] w10774 (by kernel_rfl) ?_
  refine W_nil ?_
  refine N_then ?_
  refine G_ret ?_
  obtain rfl := Option.some.inj hm
  refine N_ret [.int .i64 q10778] (RVs_cons (RV_tmp (by kernel_rfl)) RVs_nil) ?_
  exact ⟨rfl, M10775.pick [0] (by kernel_rfl)⟩
theorem c_s_l1Cur_among (w : World) (x10791 : l1Cur) (p10795 : Option Addr) (c10796 : Nat) (h10797 : rdS Gx.encU8 w x10791.code p10795 c10796) (b10793 : Nat) (x10799 : List Int) (p10801 : Option Addr) (c10802 : Nat) (h10803 : rdS Gx.encI w x10799 p10801 c10802) (hA : ∀ q ∈ List.flatten [[(b10793, .cells ⟨[.slice p10795 x10791.code.length c10796, .int .i64 x10791.at_, .int .u64 x10791.seed]⟩ 78 (0, 0))]], w.heap[q.1]? = some q.2) (hN : (idsOf [[(b10793, .cells ⟨[.slice p10795 x10791.code.length c10796, .int .i64 x10791.at_, .int .u64 x10791.seed]⟩ 78 (0, 0))]]).Nodup) (hap10798 : apartX (idsOf [[(b10793, .cells ⟨[.slice p10795 x10791.code.length c10796, .int .i64 x10791.at_, .int .u64 x10791.seed]⟩ 78 (0, 0))]]) x10791.code p10795) (hap10804 : apartX (idsOf [[(b10793, .cells ⟨[.slice p10795 x10791.code.length c10796, .int .i64 x10791.at_, .int .u64 x10791.seed]⟩ 78 (0, 0))]]) x10799 p10801) {r : Int × Int × Int} (hm : M.s_l1Cur_among x10791 x10799 = some r) :
    Calls Try.prog 75 #[.pointer (some ⟨b10793, 0, none⟩), .slice p10801 x10799.length c10802] w fun e w' => e = .returned (.int .i64 r.1) ∧ Mem (idsOf [[(b10793, .cells ⟨[.slice p10795 x10791.code.length c10796, .int .i64 x10791.at_, .int .u64 x10791.seed]⟩ 78 (0, 0))]]) w w' [[(b10793, .cells ⟨[.slice p10795 x10791.code.length c10796, .int .i64 r.2.1, .int .u64 r.2.2]⟩ 78 (0, 0))]] := by
  unfold M.s_l1Cur_among at hm
  refine C_enter Try.func75 rfl (by kernel_rfl) ?_
  have M0 := Mem.start' w [[(b10793, .cells ⟨[.slice p10795 x10791.code.length c10796, .int .i64 x10791.at_, .int .u64 x10791.seed]⟩ 78 (0, 0))]] hA hN
  refine G_seq ?_
  refine G_region ?_
  refine W_run 1 [(0, .pointer (some ⟨b10793, 0, none⟩)), (1, .slice p10801 x10799.length c10802)] w (by kernel_rfl) ?_
  refine W_nil ?_
  refine N_then ?_
  refine G_seq ?_
  refine G_region ?_
  refine W_run 4 [(5, .slice p10801 x10799.length c10802), (6, .pointer (some ⟨b10793, 0, none⟩)), (8, .int .i64 (x10799.length : Int))] w (by kernel_rfl) ?_
  obtain ⟨r10805, hr10805, hm⟩ := gx_bind hm
  refine W_call 76 #[.pointer (some ⟨b10793, 0, none⟩), .int .i64 (x10799.length : Int)] (by kernel_rfl) (by kernel_rfl) ?_
  refine (c_s_l1Cur_pick w x10791 p10795 c10796 (h10797.memX hap10798 M0) b10793 (x10799.length : Int) (M0.hasPick [0]) (M0.nodupPick [0] (by kernel_rfl)) (apartX.old h10797 hap10798 M0 [0]) hr10805).mono ?_
  rintro e_ w10806 ⟨rfl, K10807⟩
  have M10808 := M0.callF' [0] [] (by kernel_rfl) K10807
  refine ⟨_, rfl, ?_⟩
  obtain ⟨y10809, hy10809, hm⟩ := gx_bind hm
  refine W_val (elemP p10801 (r10805.1.toNat * 1)) w10806 (by kernel_rfl) (E_index (E := Gx.encI) _ _ _ x10799.length c10802 .i64 r10805.1 1 (y := y10809) rfl (by kernel_rfl) (by kernel_rfl) (by kernel_rfl) (h10803.memX hap10804 M10808) rfl hy10809) ?_
  refine W_val (.int .i64 y10809) w10806 (by kernel_rfl) (E_loadE (E := Gx.encI) _ _ false 1 r10805.1 0 (r10805.1.toNat * 1) y10809 (.int .i64 y10809) rfl (by kernel_rfl) (by kernel_rfl) (by kernel_rfl) (h10803.memX hap10804 M10808) hy10809 rfl) ?_
  refine W_run 1 [(4, .int .i64 y10809)] w10806 (by kernel_rfl) ?_
  refine W_nil ?_
  refine N_then ?_
  refine G_ret ?_
  obtain rfl := Option.some.inj hm
  refine N_ret [.int .i64 y10809] (RVs_cons (RV_tmp (by kernel_rfl)) RVs_nil) ?_
  exact ⟨rfl, M10808.pick [0] (by kernel_rfl)⟩
theorem c_s_l1Cur_owners (w : World) (x10695 : l1Cur) (p10699 : Option Addr) (c10700 : Nat) (h10701 : rdS Gx.encU8 w x10695.code p10699 c10700) (b10697 : Nat) (hA : ∀ q ∈ List.flatten [[(b10697, .cells ⟨[.slice p10699 x10695.code.length c10700, .int .i64 x10695.at_, .int .u64 x10695.seed]⟩ 78 (0, 0))]], w.heap[q.1]? = some q.2) (hN : (idsOf [[(b10697, .cells ⟨[.slice p10699 x10695.code.length c10700, .int .i64 x10695.at_, .int .u64 x10695.seed]⟩ 78 (0, 0))]]).Nodup) (hap10702 : apartX (idsOf [[(b10697, .cells ⟨[.slice p10699 x10695.code.length c10700, .int .i64 x10695.at_, .int .u64 x10695.seed]⟩ 78 (0, 0))]]) x10695.code p10699) {r : (List Int) × Int × Int} (hm : M.s_l1Cur_owners x10695 = some r) :
    Calls Try.prog 72 #[.pointer (some ⟨b10697, 0, none⟩)] w fun e w' => ∃ (p10704 : Option Addr) (c10705 : Nat) (sg10706 : Seg), e = .returned (.slice p10704 r.1.length c10705) ∧ ownS Gx.encI r.1 p10704 c10705 sg10706 ∧ Mem (idsOf [[(b10697, .cells ⟨[.slice p10699 x10695.code.length c10700, .int .i64 x10695.at_, .int .u64 x10695.seed]⟩ 78 (0, 0))]]) w w' [[(b10697, .cells ⟨[.slice p10699 x10695.code.length c10700, .int .i64 r.2.1, .int .u64 r.2.2]⟩ 78 (0, 0))], sg10706] := by
  unfold M.s_l1Cur_owners at hm
  refine C_enter Try.func72 rfl (by kernel_rfl) ?_
  have M0 := Mem.start' w [[(b10697, .cells ⟨[.slice p10699 x10695.code.length c10700, .int .i64 x10695.at_, .int .u64 x10695.seed]⟩ 78 (0, 0))]] hA hN
  refine G_seq ?_
  refine G_region ?_
  refine W_run 1 [(0, .pointer (some ⟨b10697, 0, none⟩))] w (by kernel_rfl) ?_
  refine W_nil ?_
  refine N_then ?_
  refine G_seq ?_
  refine G_region ?_
  refine W_lit (E := Gx.encI) ([] : List Int) 0 [] 3 M0 (by kernel_rfl) (by kernel_rfl) (by kernel_rfl) (by kernel_rfl) (by kernel_rfl) ?_
  intro p10708 c10709 sg10710 w10711 ho10712 M10713
  refine W_run 1 [(0, .pointer (some ⟨b10697, 0, none⟩)), (3, .slice p10708 ([] : List Int).length c10709)] w10711 (by kernel_rfl) ?_
  refine W_nil ?_
  refine N_then ?_
  refine G_seq ?_
  refine G_seq ?_
  refine G_region ?_
  refine W_run 1 [(0, .pointer (some ⟨b10697, 0, none⟩)), (3, .slice p10708 ([] : List Int).length c10709), (6, .pointer (some ⟨b10697, 0, none⟩))] w10711 (by kernel_rfl) ?_
  obtain ⟨r10779, hr10779, hm⟩ := gx_bind hm
  refine W_call 76 #[.pointer (some ⟨b10697, 0, none⟩), .int .i64 16] (by kernel_rfl) (by kernel_rfl) ?_
  refine (c_s_l1Cur_pick w10711 x10695 p10699 c10700 (h10701.memX hap10702 M10713) b10697 16 (M10713.hasPick [0]) (M10713.nodupPick [0] (by kernel_rfl)) (apartX.old h10701 hap10702 M10713 [0]) hr10779).mono ?_
  rintro e_ w10780 ⟨rfl, K10781⟩
  have M10782 := M10713.callF' [0] [1] (by kernel_rfl) K10781
  refine ⟨_, rfl, ?_⟩
  refine W_run 2 [(0, .pointer (some ⟨b10697, 0, none⟩)), (3, .slice p10708 ([] : List Int).length c10709), (4, .int .i64 (w64 (1 + r10779.1)))] w10780 (by kernel_rfl) ?_
  refine W_nil ?_
  refine N_then ?_
  obtain ⟨out10868, hw10869, hmo10870⟩ := gx_bind hm
  refine G_meet (fun a w' => ∃ (p10877 : Option Addr), ∃ (c10878 : Nat), ∃ (sg10879 : Seg), ownS Gx.encI out10868.1 p10877 c10878 sg10879 ∧ Mem (idsOf [[(b10697, .cells ⟨[.slice p10699 x10695.code.length c10700, .int .i64 x10695.at_, .int .u64 x10695.seed]⟩ 78 (0, 0))]]) w w' [[(b10697, .cells ⟨[.slice p10699 x10695.code.length c10700, .int .i64 out10868.2.1, .int .u64 out10868.2.2]⟩ 78 (0, 0))], sg10879] ∧ Sat Try.f72.ntmps [(0, .pointer (some ⟨b10697, 0, none⟩)), (3, .slice p10877 out10868.1.length c10878)] a) ?_ ?_
  · refine G_block ?_
    refine G_while (σ := List Int × Int × Int × Int) (ρ := List Int × Int × Int) (fun s10861 a w' => ∃ (p10871 : Option Addr), ∃ (c10872 : Nat), ∃ (sg10873 : Seg), ownS Gx.encI s10861.1 p10871 c10872 sg10873 ∧ Mem (idsOf [[(b10697, .cells ⟨[.slice p10699 x10695.code.length c10700, .int .i64 x10695.at_, .int .u64 x10695.seed]⟩ 78 (0, 0))]]) w w' [[(b10697, .cells ⟨[.slice p10699 x10695.code.length c10700, .int .i64 s10861.2.2.1, .int .u64 s10861.2.2.2]⟩ 78 (0, 0))], sg10873] ∧ Sat Try.f72.ntmps [(0, .pointer (some ⟨b10697, 0, none⟩)), (3, .slice p10871 s10861.1.length c10872), (4, .int .i64 s10861.2.1)] a) hw10869 (fun a ha => ⟨p10708, c10709, sg10710, ho10712, M10782.pick [1, 0] (by kernel_rfl), ha.sub (by kernel_rfl)⟩) ?_
    clear hm
    intro s10861 x10862 hm hout10863 a10864 w10865 ⟨p10871, c10872, sg10873, ho10874, M10866, hS10867⟩
    refine G_use hS10867 ?_
    refine G_seq ?_
    refine G_seq ?_
    refine G_region ?_
    refine W_run 2 [(0, .pointer (some ⟨b10697, 0, none⟩)), (3, .slice p10871 s10861.1.length c10872), (4, .int .i64 s10861.2.1), (10, .bool (decide (s10861.2.1 > 0)))] w10865 (by kernel_rfl) ?_
    refine W_nil ?_
    refine N_then ?_
    rcases gx_bif hm with ⟨hc10882, hm⟩ | ⟨hc10882, hm⟩
    · refine G_cond_t (b := (decide (s10861.2.1 > 0))) hc10882 (by kernel_rfl) ?_
      refine G_skip ?_
      refine N_then ?_
      refine G_seq ?_
      refine G_block ?_
      refine G_region ?_
      refine W_run 2 [(0, .pointer (some ⟨b10697, 0, none⟩)), (3, .slice p10871 s10861.1.length c10872), (4, .int .i64 s10861.2.1), (13, .slice p10871 s10861.1.length c10872), (14, .pointer (some ⟨b10697, 0, none⟩))] w10865 (by kernel_rfl) ?_
      refine W_lit (E := Gx.encI) [0, 0, 0, 1, 1, 2, 3, 4] 8 [.int .i64 0, .int .i64 0, .int .i64 0, .int .i64 1, .int .i64 1, .int .i64 2, .int .i64 3, .int .i64 4] 3 M10866 (by kernel_rfl) (by kernel_rfl) (by kernel_rfl) (by kernel_rfl) (by kernel_rfl) ?_
      intro p10883 c10884 sg10885 w10886 ho10887 M10888
      obtain ⟨r10890, hr10890, hm⟩ := gx_bind hm
      refine W_call 75 #[.pointer (some ⟨b10697, 0, none⟩), .slice p10883 [0, 0, 0, 1, 1, 2, 3, 4].length c10884] (by kernel_rfl) (by kernel_rfl) ?_
      refine (c_s_l1Cur_among w10886 (⟨x10695.code, s10861.2.2.1, s10861.2.2.2⟩ : l1Cur) p10699 c10700 (h10701.memX hap10702 M10888) b10697 [0, 0, 0, 1, 1, 2, 3, 4] p10883 c10884 (ho10887.rd M10888 2 (by kernel_rfl)) (M10888.hasPick [0]) (M10888.nodupPick [0] (by kernel_rfl)) (apartX.old h10701 hap10702 M10888 [0]) (apartX.own ho10887 M10888 2 (by kernel_rfl) [0] (by kernel_rfl)) hr10890).mono ?_
      rintro e_ w10891 ⟨rfl, K10892⟩
      have M10893 := M10888.callF' [0] [1, 2] (by kernel_rfl) K10892
      refine ⟨_, rfl, ?_⟩
      refine W_lit (E := Gx.encI) [r10890.1] 1 [.int .i64 r10890.1] 3 M10893 (by kernel_rfl) (by kernel_rfl) (by kernel_rfl) (by kernel_rfl) (by kernel_rfl) ?_
      intro p10894 c10895 sg10896 w10897 ho10898 M10899
      obtain ⟨ap10901, hap10901, hm⟩ := gx_bind hm
      refine W_append (E := Gx.encI) _ _ _ 8 [.int .i64 0] 0 c10895 M10899 ho10874 (by kernel_rfl) (by kernel_rfl) (by kernel_rfl) rfl (by kernel_rfl) (by kernel_rfl) (by kernel_rfl) (by kernel_rfl) (by kernel_rfl) (by kernel_rfl) (ho10898.rd M10899 3 (by kernel_rfl)) hap10901 ?_
      intro p10902 c10903 sg10904 w10905 ho10906 M10907
      refine W_run 1 [(0, .pointer (some ⟨b10697, 0, none⟩)), (3, .slice p10902 ap10901.length c10903), (4, .int .i64 s10861.2.1)] w10905 (by kernel_rfl) ?_
      refine W_nil ?_
      refine N_block ?_
      refine N_then ?_
      refine G_region ?_
      refine W_run 3 [(0, .pointer (some ⟨b10697, 0, none⟩)), (3, .slice p10902 ap10901.length c10903), (4, .int .i64 (w64 (s10861.2.1 - 1)))] w10905 (by kernel_rfl) ?_
      refine W_nil ?_
      obtain rfl := Option.some.inj hm
      exact N_loop fun a ha => ⟨_, rfl, p10902, c10903, sg10904, ho10906, M10907.pick [2, 0] (by kernel_rfl), ha.sub (by kernel_rfl)⟩
    refine G_cond_f (b := (decide (s10861.2.1 > 0))) hc10882 (by kernel_rfl) ?_
    refine G_exit ?_
    refine N_then_exit ?_
    refine N_then_exit ?_
    refine N_block_eq ?_
    obtain rfl := Option.some.inj hm
    obtain rfl := hout10863 _ rfl
    exact N_meet fun a ha => ⟨p10871, c10872, sg10873, ho10874, M10866.pick [0, 1] (by kernel_rfl), ha.sub (by kernel_rfl)⟩
  intro a10909 w10910 ⟨p10877, c10878, sg10879, ho10880, M10911, hS10912⟩
  refine N_use hS10912 ?_
  have hm := hmo10870
  refine N_then ?_
  refine G_seq ?_
  refine G_seq ?_
  refine G_region ?_
  refine W_run 1 [(0, .pointer (some ⟨b10697, 0, none⟩)), (3, .slice p10877 out10868.1.length c10878), (19, .pointer (some ⟨b10697, 0, none⟩))] w10910 (by kernel_rfl) ?_
  obtain ⟨r10913, hr10913, hm⟩ := gx_bind hm
  refine W_call 76 #[.pointer (some ⟨b10697, 0, none⟩), .int .i64 24] (by kernel_rfl) (by kernel_rfl) ?_
  refine (c_s_l1Cur_pick w10910 (⟨x10695.code, out10868.2.1, out10868.2.2⟩ : l1Cur) p10699 c10700 (h10701.memX hap10702 M10911) b10697 24 (M10911.hasPick [0]) (M10911.nodupPick [0] (by kernel_rfl)) (apartX.old h10701 hap10702 M10911 [0]) hr10913).mono ?_
  rintro e_ w10914 ⟨rfl, K10915⟩
  have M10916 := M10911.callF' [0] [1] (by kernel_rfl) K10915
  refine ⟨_, rfl, ?_⟩
  refine W_nil ?_
  refine N_then ?_
  refine G_block ?_
  refine G_seq ?_
  refine G_region ?_
  refine W_run 2 [(0, .pointer (some ⟨b10697, 0, none⟩)), (3, .slice p10877 out10868.1.length c10878), (20, .int .i64 r10913.1), (21, .bool (r10913.1 == 0))] w10914 (by kernel_rfl) ?_
  refine W_nil ?_
  refine N_then ?_
  obtain ⟨o11354, ho11355, hm11356⟩ := gx_bind hm
  refine G_meet (fun a w' => ∃ (p11357 : Option Addr), ∃ (c11358 : Nat), ∃ (sg11359 : Seg), ∃ (sg11362 : Seg), ownS Gx.encI o11354.1 p11357 c11358 sg11359 ∧ ownS Gx.encI o11354.2.2.2 p10877 c10878 sg11362 ∧ Mem (idsOf [[(b10697, .cells ⟨[.slice p10699 x10695.code.length c10700, .int .i64 x10695.at_, .int .u64 x10695.seed]⟩ 78 (0, 0))]]) w w' [[(b10697, .cells ⟨[.slice p10699 x10695.code.length c10700, .int .i64 o11354.2.1, .int .u64 o11354.2.2.1]⟩ 78 (0, 0))], sg11359] ∧ Sat Try.f72.ntmps [(3, .slice p11357 o11354.1.length c11358)] a) ?_ ?_
  · have hm := ho11355
    rcases gx_bif hm with ⟨hc11364, hm⟩ | ⟨hc11364, hm⟩
    · refine G_cond_t (b := (r10913.1 == 0)) hc11364 (by kernel_rfl) ?_
      refine G_region ?_
      refine W_run 4 [(0, .pointer (some ⟨b10697, 0, none⟩)), (3, .slice p10877 out10868.1.length c10878), (23, .slice p10877 out10868.1.length c10878), (24, .pointer (some ⟨b10697, 0, none⟩)), (26, .int .i64 (out10868.1.length : Int))] w10914 (by kernel_rfl) ?_
      obtain ⟨r11365, hr11365, hm⟩ := gx_bind hm
      refine W_call 76 #[.pointer (some ⟨b10697, 0, none⟩), .int .i64 (out10868.1.length : Int)] (by kernel_rfl) (by kernel_rfl) ?_
      refine (c_s_l1Cur_pick w10914 (⟨x10695.code, r10913.2.1, r10913.2.2⟩ : l1Cur) p10699 c10700 (h10701.memX hap10702 M10916) b10697 (out10868.1.length : Int) (M10916.hasPick [1]) (M10916.nodupPick [1] (by kernel_rfl)) (apartX.old h10701 hap10702 M10916 [1]) hr11365).mono ?_
      rintro e_ w11366 ⟨rfl, K11367⟩
      have M11368 := M10916.callF' [1] [0] (by kernel_rfl) K11367
      refine ⟨_, rfl, ?_⟩
      refine W_run 1 [(3, .slice p10877 out10868.1.length c10878), (23, .slice p10877 out10868.1.length c10878), (27, .int .i64 r11365.1), (28, .pointer (some ⟨b10697, 0, none⟩))] w11366 (by kernel_rfl) ?_
      refine W_lit (E := Gx.encI) [(-1), 5] 2 [.int .i64 (-1), .int .i64 5] 3 M11368 (by kernel_rfl) (by kernel_rfl) (by kernel_rfl) (by kernel_rfl) (by kernel_rfl) ?_
      intro p11369 c11370 sg11371 w11372 ho11373 M11374
      obtain ⟨r11376, hr11376, hm⟩ := gx_bind hm
      refine W_call 75 #[.pointer (some ⟨b10697, 0, none⟩), .slice p11369 [(-1), 5].length c11370] (by kernel_rfl) (by kernel_rfl) ?_
      refine (c_s_l1Cur_among w11372 (⟨x10695.code, r11365.2.1, r11365.2.2⟩ : l1Cur) p10699 c10700 (h10701.memX hap10702 M11374) b10697 [(-1), 5] p11369 c11370 (ho11373.rd M11374 2 (by kernel_rfl)) (M11374.hasPick [1]) (M11374.nodupPick [1] (by kernel_rfl)) (apartX.old h10701 hap10702 M11374 [1]) (apartX.own ho11373 M11374 2 (by kernel_rfl) [1] (by kernel_rfl)) hr11376).mono ?_
      rintro e_ w11377 ⟨rfl, K11378⟩
      have M11379 := M11374.callF' [1] [0, 2] (by kernel_rfl) K11378
      refine ⟨_, rfl, ?_⟩
      obtain ⟨y11380, hy11380, hm⟩ := gx_bind hm
      refine W_val (elemP p10877 (r11365.1.toNat * 1)) w11377 (by kernel_rfl) (E_index (E := Gx.encI) _ _ _ out10868.1.length c10878 .i64 r11365.1 1 (y := y11380) rfl (by kernel_rfl) (by kernel_rfl) (by kernel_rfl) (ho10880.rd M11379 0 (by kernel_rfl)) rfl hy11380) ?_
      refine W_storeE (E := Gx.encI) _ _ _ false 1 r11365.1.toNat 0 (r11365.1.toNat * 1) y11380 r11376.1 (.int .i64 r11376.1) 0 M11379 ho10880 (by kernel_rfl) (by kernel_rfl) rfl (by kernel_rfl) (by kernel_rfl) (by kernel_rfl) (by kernel_rfl) (by kernel_rfl) (by kernel_rfl) (by kernel_rfl) (gxIdx_spec hy11380).2 rfl ?_
      intro w11381 sg11383 ho11384 M11382
      refine W_conv 3 (.slice p10877 out10868.1.length c10878) (.slice p10877 (out10868.1.set r11365.1.toNat r11376.1).length c10878) (by kernel_rfl) (by rw [@List.length_set _ out10868.1 r11365.1.toNat r11376.1]) ?_
      refine W_conv 23 (.slice p10877 out10868.1.length c10878) (.slice p10877 (out10868.1.set r11365.1.toNat r11376.1).length c10878) (by kernel_rfl) (by rw [@List.length_set _ out10868.1 r11365.1.toNat r11376.1]) ?_
      refine W_nil ?_
      obtain rfl := Option.some.inj hm
      exact N_meet fun a ha => ⟨p10877, c10878, sg11383, sg11383, ho11384, ho11384, M11382.pick [2, 0] (by kernel_rfl), ha.sub (by kernel_rfl)⟩
    refine G_cond_f (b := (r10913.1 == 0)) hc11364 (by kernel_rfl) ?_
    refine G_seq ?_
    refine G_region ?_
    refine W_run 2 [(0, .pointer (some ⟨b10697, 0, none⟩)), (3, .slice p10877 out10868.1.length c10878), (20, .int .i64 r10913.1), (32, .bool (r10913.1 == 1))] w10914 (by kernel_rfl) ?_
    refine W_nil ?_
    refine N_then ?_
    obtain ⟨o11587, ho11588, hm11589⟩ := gx_bind hm
    refine G_meet (fun a w' => ∃ (p11590 : Option Addr), ∃ (c11591 : Nat), ∃ (sg11592 : Seg), ownS Gx.encI o11587.1 p11590 c11591 sg11592 ∧ Mem (idsOf [[(b10697, .cells ⟨[.slice p10699 x10695.code.length c10700, .int .i64 x10695.at_, .int .u64 x10695.seed]⟩ 78 (0, 0))]]) w w' [[(b10697, .cells ⟨[.slice p10699 x10695.code.length c10700, .int .i64 o11587.2.1, .int .u64 o11587.2.2]⟩ 78 (0, 0))], sg11592] ∧ Sat Try.f72.ntmps [(3, .slice p11590 o11587.1.length c11591)] a) ?_ ?_
    · have hm := ho11588
      rcases gx_bif hm with ⟨hc11595, hm⟩ | ⟨hc11595, hm⟩
      · refine G_cond_t (b := (r10913.1 == 1)) hc11595 (by kernel_rfl) ?_
        refine G_region ?_
        refine W_lit (E := Gx.encI) ([] : List Int) 0 [] 3 M10916 (by kernel_rfl) (by kernel_rfl) (by kernel_rfl) (by kernel_rfl) (by kernel_rfl) ?_
        intro p11596 c11597 sg11598 w11599 ho11600 M11601
        refine W_run 1 [(3, .slice p11596 ([] : List Int).length c11597)] w11599 (by kernel_rfl) ?_
        refine W_nil ?_
        obtain rfl := Option.some.inj hm
        exact N_meet fun a ha => ⟨p11596, c11597, sg11598, ho11600, M11601.pick [1, 2] (by kernel_rfl), ha.sub (by kernel_rfl)⟩
      refine G_cond_f (b := (r10913.1 == 1)) hc11595 (by kernel_rfl) ?_
      refine G_seq ?_
      refine G_region ?_
      refine W_run 2 [(0, .pointer (some ⟨b10697, 0, none⟩)), (3, .slice p10877 out10868.1.length c10878), (35, .bool (r10913.1 == 2))] w10914 (by kernel_rfl) ?_
      refine W_nil ?_
      refine N_then ?_
      obtain ⟨o11694, ho11695, hm11696⟩ := gx_bind hm
      refine G_meet (fun a w' => ∃ (p11697 : Option Addr), ∃ (c11698 : Nat), ∃ (sg11699 : Seg), ownS Gx.encI o11694.1 p11697 c11698 sg11699 ∧ Mem (idsOf [[(b10697, .cells ⟨[.slice p10699 x10695.code.length c10700, .int .i64 x10695.at_, .int .u64 x10695.seed]⟩ 78 (0, 0))]]) w w' [[(b10697, .cells ⟨[.slice p10699 x10695.code.length c10700, .int .i64 o11694.2.1, .int .u64 o11694.2.2]⟩ 78 (0, 0))], sg11699] ∧ Sat Try.f72.ntmps [(3, .slice p11697 o11694.1.length c11698)] a) ?_ ?_
      · have hm := ho11695
        rcases gx_bif hm with ⟨hc11702, hm⟩ | ⟨hc11702, hm⟩
        · refine G_cond_t (b := (r10913.1 == 2)) hc11702 (by kernel_rfl) ?_
          obtain ⟨out11755, hw11756, hmo11757⟩ := gx_bind hm
          refine G_meet (fun a w' => ∃ (p11764 : Option Addr), ∃ (c11765 : Nat), ∃ (sg11766 : Seg), ownS Gx.encI out11755.1 p11764 c11765 sg11766 ∧ Mem (idsOf [[(b10697, .cells ⟨[.slice p10699 x10695.code.length c10700, .int .i64 x10695.at_, .int .u64 x10695.seed]⟩ 78 (0, 0))]]) w w' [[(b10697, .cells ⟨[.slice p10699 x10695.code.length c10700, .int .i64 out11755.2.1, .int .u64 out11755.2.2]⟩ 78 (0, 0))], sg11766] ∧ Sat Try.f72.ntmps [(3, .slice p11764 out11755.1.length c11765)] a) ?_ ?_
          · refine G_block ?_
            refine G_while (σ := List Int × Int × Int) (ρ := List Int × Int × Int) (fun s11748 a w' => ∃ (p11758 : Option Addr), ∃ (c11759 : Nat), ∃ (sg11760 : Seg), ownS Gx.encI s11748.1 p11758 c11759 sg11760 ∧ Mem (idsOf [[(b10697, .cells ⟨[.slice p10699 x10695.code.length c10700, .int .i64 x10695.at_, .int .u64 x10695.seed]⟩ 78 (0, 0))]]) w w' [[(b10697, .cells ⟨[.slice p10699 x10695.code.length c10700, .int .i64 s11748.2.1, .int .u64 s11748.2.2]⟩ 78 (0, 0))], sg11760] ∧ Sat Try.f72.ntmps [(0, .pointer (some ⟨b10697, 0, none⟩)), (3, .slice p11758 s11748.1.length c11759)] a) hw11756 (fun a ha => ⟨p10877, c10878, sg10879, ho10880, M10916.pick [1, 0] (by kernel_rfl), ha.sub (by kernel_rfl)⟩) ?_
            clear hm
            intro s11748 x11749 hm hout11750 a11751 w11752 ⟨p11758, c11759, sg11760, ho11761, M11753, hS11754⟩
            refine G_use hS11754 ?_
            refine G_seq ?_
            refine G_seq ?_
            refine G_region ?_
            refine W_run 3 [(0, .pointer (some ⟨b10697, 0, none⟩)), (3, .slice p11758 s11748.1.length c11759), (38, .int .i64 (s11748.1.length : Int)), (39, .pointer (some ⟨b10697, 0, none⟩))] w11752 (by kernel_rfl) ?_
            obtain ⟨r11769, hr11769, hm⟩ := gx_bind hm
            refine W_call 76 #[.pointer (some ⟨b10697, 0, none⟩), .int .i64 2] (by kernel_rfl) (by kernel_rfl) ?_
            refine (c_s_l1Cur_pick w11752 (⟨x10695.code, s11748.2.1, s11748.2.2⟩ : l1Cur) p10699 c10700 (h10701.memX hap10702 M11753) b10697 2 (M11753.hasPick [0]) (M11753.nodupPick [0] (by kernel_rfl)) (apartX.old h10701 hap10702 M11753 [0]) hr11769).mono ?_
            rintro e_ w11770 ⟨rfl, K11771⟩
            have M11772 := M11753.callF' [0] [1] (by kernel_rfl) K11771
            refine ⟨_, rfl, ?_⟩
            refine W_run 2 [(0, .pointer (some ⟨b10697, 0, none⟩)), (3, .slice p11758 s11748.1.length c11759), (42, .bool (decide ((s11748.1.length : Int) < (w64 (16 + r11769.1)))))] w11770 (by kernel_rfl) ?_
            refine W_nil ?_
            refine N_then ?_
            rcases gx_bif hm with ⟨hc11773, hm⟩ | ⟨hc11773, hm⟩
            · refine G_cond_t (b := (decide ((s11748.1.length : Int) < (w64 (16 + r11769.1))))) hc11773 (by kernel_rfl) ?_
              refine G_skip ?_
              refine N_then ?_
              refine G_block ?_
              refine G_region ?_
              refine W_run 1 [(0, .pointer (some ⟨b10697, 0, none⟩)), (3, .slice p11758 s11748.1.length c11759), (43, .slice p11758 s11748.1.length c11759)] w11770 (by kernel_rfl) ?_
              refine W_lit (E := Gx.encI) [0] 1 [.int .i64 0] 3 M11772 (by kernel_rfl) (by kernel_rfl) (by kernel_rfl) (by kernel_rfl) (by kernel_rfl) ?_
              intro p11774 c11775 sg11776 w11777 ho11778 M11779
              obtain ⟨ap11781, hap11781, hm⟩ := gx_bind hm
              refine W_append (E := Gx.encI) _ _ _ 8 [.int .i64 0] 0 c11775 M11779 ho11761 (by kernel_rfl) (by kernel_rfl) (by kernel_rfl) rfl (by kernel_rfl) (by kernel_rfl) (by kernel_rfl) (by kernel_rfl) (by kernel_rfl) (by kernel_rfl) (ho11778.rd M11779 2 (by kernel_rfl)) hap11781 ?_
              intro p11782 c11783 sg11784 w11785 ho11786 M11787
              refine W_run 1 [(0, .pointer (some ⟨b10697, 0, none⟩)), (3, .slice p11782 ap11781.length c11783)] w11785 (by kernel_rfl) ?_
              refine W_nil ?_
              refine N_block ?_
              obtain rfl := Option.some.inj hm
              exact N_loop fun a ha => ⟨_, rfl, p11782, c11783, sg11784, ho11786, M11787.pick [1, 0] (by kernel_rfl), ha.sub (by kernel_rfl)⟩
            refine G_cond_f (b := (decide ((s11748.1.length : Int) < (w64 (16 + r11769.1))))) hc11773 (by kernel_rfl) ?_
            refine G_exit ?_
            refine N_then_exit ?_
            refine N_then_exit ?_
            refine N_block_eq ?_
            obtain rfl := Option.some.inj hm
            obtain rfl := hout11750 _ rfl
            exact N_meet fun a ha => ⟨p11758, c11759, sg11760, ho11761, M11772.pick [1, 0] (by kernel_rfl), ha.sub (by kernel_rfl)⟩
          intro a11789 w11790 ⟨p11764, c11765, sg11766, ho11767, M11791, hS11792⟩
          refine N_use hS11792 ?_
          have hm := hmo11757
          obtain rfl := Option.some.inj hm
          exact N_meet fun a ha => ⟨p11764, c11765, sg11766, ho11767, M11791.pick [0, 1] (by kernel_rfl), ha.sub (by kernel_rfl)⟩
        refine G_cond_f (b := (r10913.1 == 2)) hc11702 (by kernel_rfl) ?_
        refine G_skip ?_
        obtain rfl := Option.some.inj hm
        exact N_meet fun a ha => ⟨p10877, c10878, sg10879, ho10880, M10916.pick [1, 0] (by kernel_rfl), ha.sub (by kernel_rfl)⟩
      intro a11795 w11793 ⟨p11697, c11698, sg11699, ho11700, M11794, hS11796⟩
      refine N_use hS11796 ?_
      have hm := hm11696
      obtain rfl := Option.some.inj hm
      exact N_meet fun a ha => ⟨p11697, c11698, sg11699, ho11700, M11794.pick [0, 1] (by kernel_rfl), ha.sub (by kernel_rfl)⟩
    intro a11799 w11797 ⟨p11590, c11591, sg11592, ho11593, M11798, hS11800⟩
    refine N_use hS11800 ?_
    have hm := hm11589
    obtain rfl := Option.some.inj hm
    exact N_meet fun a ha => ⟨p11590, c11591, sg11592, sg10879, ho11593, ho10880, M11798.pick [0, 1] (by kernel_rfl), ha.sub (by kernel_rfl)⟩
  intro a11803 w11801 ⟨p11357, c11358, sg11359, sg11362, ho11360, ho11363, M11802, hS11804⟩
  refine N_use hS11804 ?_
  have hm := hm11356
  refine N_block ?_
  refine N_then ?_
  refine G_seq ?_
  refine G_region ?_
  refine W_run 2 [(2, .slice p11357 o11354.1.length c11358)] w11801 (by kernel_rfl) ?_
  refine W_nil ?_
  refine N_then ?_
  refine G_ret ?_
  obtain rfl := Option.some.inj hm
  refine N_ret [.slice p11357 o11354.1.length c11358] (RVs_cons (RV_tmp (by kernel_rfl)) RVs_nil) ?_
  exact ⟨p11357, c11358, sg11359, rfl, ho11360, M11802.pick [0, 1] (by kernel_rfl)⟩
theorem c_s_l1Cur_one (w : World) (x11851 : l1Cur) (p11855 : Option Addr) (c11856 : Nat) (h11857 : rdS Gx.encU8 w x11851.code p11855 c11856) (b11853 : Nat) (x11859 : Int) (hA : ∀ q ∈ List.flatten [[(b11853, .cells ⟨[.slice p11855 x11851.code.length c11856, .int .i64 x11851.at_, .int .u64 x11851.seed]⟩ 78 (0, 0))]], w.heap[q.1]? = some q.2) (hN : (idsOf [[(b11853, .cells ⟨[.slice p11855 x11851.code.length c11856, .int .i64 x11851.at_, .int .u64 x11851.seed]⟩ 78 (0, 0))]]).Nodup) (hap11858 : apartX (idsOf [[(b11853, .cells ⟨[.slice p11855 x11851.code.length c11856, .int .i64 x11851.at_, .int .u64 x11851.seed]⟩ 78 (0, 0))]]) x11851.code p11855) {r : Bool × Int × Int} (hm : M.s_l1Cur_one x11851 x11859 = some r) :
    Calls Try.prog 89 #[.pointer (some ⟨b11853, 0, none⟩), .int .i64 x11859] w fun e w' => e = .returned (.bool r.1) ∧ Mem (idsOf [[(b11853, .cells ⟨[.slice p11855 x11851.code.length c11856, .int .i64 x11851.at_, .int .u64 x11851.seed]⟩ 78 (0, 0))]]) w w' [[(b11853, .cells ⟨[.slice p11855 x11851.code.length c11856, .int .i64 r.2.1, .int .u64 r.2.2]⟩ 78 (0, 0))]] := by
  unfold M.s_l1Cur_one at hm
  refine C_enter Try.func89 rfl (by kernel_rfl) ?_
  have M0 := Mem.start' w [[(b11853, .cells ⟨[.slice p11855 x11851.code.length c11856, .int .i64 x11851.at_, .int .u64 x11851.seed]⟩ 78 (0, 0))]] hA hN
  refine G_seq ?_
  refine G_region ?_
  refine W_run 1 [(0, .pointer (some ⟨b11853, 0, none⟩)), (1, .int .i64 x11859)] w (by kernel_rfl) ?_
  refine W_nil ?_
  refine N_then ?_
  refine G_seq ?_
  refine G_region ?_
  refine W_run 2 [(5, .pointer (some ⟨b11853, 0, none⟩)), (6, .int .i64 x11859)] w (by kernel_rfl) ?_
  obtain ⟨r11860, hr11860, hm⟩ := gx_bind hm
  refine W_call 76 #[.pointer (some ⟨b11853, 0, none⟩), .int .i64 x11859] (by kernel_rfl) (by kernel_rfl) ?_
  refine (c_s_l1Cur_pick w x11851 p11855 c11856 (h11857.memX hap11858 M0) b11853 x11859 (M0.hasPick [0]) (M0.nodupPick [0] (by kernel_rfl)) (apartX.old h11857 hap11858 M0 [0]) hr11860).mono ?_
  rintro e_ w11861 ⟨rfl, K11862⟩
  have M11863 := M0.callF' [0] [] (by kernel_rfl) K11862
  refine ⟨_, rfl, ?_⟩
  refine W_run 2 [(4, .bool (r11860.1 == 0))] w11861 (by kernel_rfl) ?_
  refine W_nil ?_
  refine N_then ?_
  refine G_ret ?_
  obtain rfl := Option.some.inj hm
  refine N_ret [.bool (r11860.1 == 0)] (RVs_cons (RV_tmp (by kernel_rfl)) RVs_nil) ?_
  exact ⟨rfl, M11863.pick [0] (by kernel_rfl)⟩
end Go.Proofs.Ytlfligjpmodefaa
