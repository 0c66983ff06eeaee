/- The walks, printed by program: whenever the model gives r, the call returns r. Part 3. -/
import Derived.Test.YtlfligjpmodefaaM
import Derived.Test.YtlfligjpmodefaaProg
import Derived.Test.YtlfligjpmodefaaSh
import Derived.Test.YtlfligjpmodefaaC2
set_option linter.unusedVariables false
set_option maxRecDepth 100000
set_option maxHeartbeats 4000000
namespace Go.Proofs.Ytlfligjpmodefaa
open Go.Gx
theorem c_i_TakeGiven (w : World) (x5221 : List Int) (p5223 : Option Addr) (c5224 : Nat) (h5225 : rdS Gx.encI w x5221 p5223 c5224) (x5226 : List Balloon) (p5228 : Option Addr) (c5229 : Nat) (h5230 : rdD deepBalloon w x5226 p5228 c5229) (x5231 : Int) {r : (List Int) × (List Balloon) × Int × Bool} (hm : M.i_TakeGiven x5221 x5226 x5231 = some r) :
    Calls Try.prog 28 #[.slice p5223 x5221.length c5224, .slice p5228 x5226.length c5229, .int .i64 x5231] w fun e w' => ∃ (p5233 : Option Addr) (c5234 : Nat) (sg5235 : Seg), ∃ (p5237 : Option Addr) (c5238 : Nat) (sg5239 : Seg) (sg5240 : Seg), e = .returned (.tuple #[.slice p5233 r.1.length c5234, .slice p5237 r.2.1.length c5238, .int .i64 r.2.2.1, .bool r.2.2.2]) ∧ ownS Gx.encI r.1 p5233 c5234 sg5235 ∧ ownD deepBalloon r.2.1 p5237 c5238 sg5239 sg5240 ∧ Mem [] w w' [sg5235, sg5239, sg5240] := by
  unfold M.i_TakeGiven at hm
  refine C_enter Try.func28 rfl (by kernel_rfl) ?_
  have M0 := Mem.refl [] w
  refine G_seq ?_
  refine G_region ?_
  refine W_run 4 [(0, .slice p5223 x5221.length c5224), (1, .slice p5228 x5226.length c5229), (2, .int .i64 x5231)] w (by kernel_rfl) ?_
  refine W_nil ?_
  refine N_then ?_
  refine G_seq ?_
  refine G_seq ?_
  obtain ⟨o5252, ho5253, hm5254⟩ := gx_bind hm
  refine G_meet (fun a w' => Mem [] w w' [] ∧ Sat Try.f28.ntmps [(0, .slice p5223 x5221.length c5224), (1, .slice p5228 x5226.length c5229), (2, .int .i64 x5231), (24, .bool o5252)] a) ?_ ?_
  · have hm := ho5253
    refine G_region ?_
    refine W_run 2 [(0, .slice p5223 x5221.length c5224), (1, .slice p5228 x5226.length c5229), (2, .int .i64 x5231), (16, .slice p5223 x5221.length c5224), (17, .slice p5228 x5226.length c5229)] w (by kernel_rfl) ?_
    obtain ⟨r5255, hr5255, hm⟩ := gx_bind hm
    refine W_call 17 #[.slice p5223 x5221.length c5224, .slice p5228 x5226.length c5229] (by kernel_rfl) (by kernel_rfl) ?_
    refine (c_i_AreBalloons w x5221 p5223 c5224 (h5225.mem0 M0) x5226 p5228 c5229 (h5230.mem0 M0) hr5255).mono ?_
    rintro e_ w5256 ⟨rfl, K5257⟩
    have M5258 := M0.call0 K5257
    refine ⟨_, rfl, ?_⟩
    refine W_run 2 [(0, .slice p5223 x5221.length c5224), (1, .slice p5228 x5226.length c5229), (2, .int .i64 x5231), (20, .bool (!r5255))] w5256 (by kernel_rfl) ?_
    rcases gx_bif hm with ⟨hc5259, hm⟩ | ⟨hc5259, hm⟩
    · refine W_known 20 true (by kernel_rfl) hc5259 ?_
      refine W_run 4 [(0, .slice p5223 x5221.length c5224), (1, .slice p5228 x5226.length c5229), (2, .int .i64 x5231), (24, .bool true)] w5256 (by kernel_rfl) ?_
      refine W_nil ?_
      obtain rfl := Option.some.inj hm
      exact N_meet fun a ha => ⟨M5258.pick [] (by kernel_rfl), ha.sub (by kernel_rfl)⟩
    refine W_known 20 false (by kernel_rfl) hc5259 ?_
    refine W_run 1 [(0, .slice p5223 x5221.length c5224), (1, .slice p5228 x5226.length c5229), (2, .int .i64 x5231), (20, .bool false), (21, .int .i64 x5231)] w5256 (by kernel_rfl) ?_
    obtain ⟨r5260, hr5260, hm⟩ := gx_bind hm
    refine W_call 50 #[.int .i64 x5231] (by kernel_rfl) (by kernel_rfl) ?_
    refine (c_i_isGuest w5256 x5231 hr5260).mono ?_
    rintro e_ w5261 ⟨rfl, K5262⟩
    have M5263 := M5258.call0 K5262
    refine ⟨_, rfl, ?_⟩
    refine W_run 2 [(0, .slice p5223 x5221.length c5224), (1, .slice p5228 x5226.length c5229), (2, .int .i64 x5231), (24, .bool (!r5260))] w5261 (by kernel_rfl) ?_
    refine W_nil ?_
    obtain rfl := Option.some.inj hm
    exact N_meet fun a ha => ⟨M5263.pick [] (by kernel_rfl), ha.sub (by kernel_rfl)⟩
  intro a5266 w5264 ⟨M5265, hS5267⟩
  refine N_use hS5267 ?_
  have hm := hm5254
  refine N_then ?_
  rcases gx_bif hm with ⟨hc5268, hm⟩ | ⟨hc5268, hm⟩
  · refine G_cond_t (b := o5252) hc5268 (by kernel_rfl) ?_
    refine G_seq ?_
    refine G_region ?_
    refine W_run 4 [(6, .slice none 0 0), (7, .slice none 0 0), (8, .int .i64 0), (9, .bool false)] w5264 (by kernel_rfl) ?_
    refine W_nil ?_
    refine N_then ?_
    refine G_ret ?_
    refine N_then_ret ?_
    obtain rfl := Option.some.inj hm
    refine N_ret [.slice none 0 0, .slice none 0 0, .int .i64 0, .bool false] (RVs_cons (RV_tmp (by kernel_rfl)) (RVs_cons (RV_tmp (by kernel_rfl)) (RVs_cons (RV_tmp (by kernel_rfl)) (RVs_cons (RV_tmp (by kernel_rfl)) RVs_nil)))) ?_
    exact ⟨none, 0, [], none, 0, [], [], rfl, ownS_nil, ownD_nil, M5265.pick [100000, 100001, 100002] (by kernel_rfl)⟩
  refine G_cond_f (b := o5252) hc5268 (by kernel_rfl) ?_
  refine G_skip ?_
  refine N_then ?_
  refine G_seq ?_
  refine G_region ?_
  refine W_run 1 [(0, .slice p5223 x5221.length c5224), (1, .slice p5228 x5226.length c5229), (2, .int .i64 x5231), (25, .slice p5223 x5221.length c5224)] w5264 (by kernel_rfl) ?_
  obtain ⟨r5271, hr5271, hm⟩ := gx_bind hm
  refine W_call 62 #[.slice p5223 x5221.length c5224] (by kernel_rfl) (by kernel_rfl) ?_
  refine (c_i_copyInts w5264 x5221 p5223 c5224 (h5225.mem0 M5265) hr5271).mono ?_
  rintro e_ w5277 ⟨p5273, c5274, sg5275, rfl, ho5276, K5278⟩
  have M5279 := M5265.call K5278
  refine ⟨_, rfl, ?_⟩
  refine W_run 1 [(0, .slice p5223 x5221.length c5224), (2, .int .i64 x5231), (26, .slice p5273 r5271.length c5274), (27, .slice p5228 x5226.length c5229)] w5277 (by kernel_rfl) ?_
  obtain ⟨r5280, hr5280, hm⟩ := gx_bind hm
  refine W_call 60 #[.slice p5228 x5226.length c5229] (by kernel_rfl) (by kernel_rfl) ?_
  refine (c_i_newBalloons w5277 x5226 p5228 c5229 (h5230.mem0 M5279) hr5280).mono ?_
  rintro e_ w5287 ⟨p5282, c5283, sg5284, sg5285, rfl, ho5286, K5288⟩
  have M5289 := M5279.call K5288
  refine ⟨_, rfl, ?_⟩
  refine W_run 2 [(0, .slice p5223 x5221.length c5224), (2, .int .i64 x5231), (10, .slice p5273 r5271.length c5274), (11, .slice p5282 r5280.length c5283)] w5287 (by kernel_rfl) ?_
  refine W_nil ?_
  refine N_then ?_
  refine G_seq ?_
  refine G_seq ?_
  refine G_region ?_
  refine W_run 3 [(2, .int .i64 x5231), (10, .slice p5273 r5271.length c5274), (11, .slice p5282 r5280.length c5283), (30, .int .i64 (x5221.length : Int)), (31, .int .i64 0)] w5287 (by kernel_rfl) ?_
  refine W_nil ?_
  refine N_then ?_
  obtain ⟨out5767, hw5768, hmo5769⟩ := gx_bind hm
  refine G_meet (fun a w' => ∃ (o5770 : Unit), out5767 = .inl o5770 ∧ Mem [] w w' [] ∧ Sat Try.f28.ntmps [] a) ?_ ?_
  · refine G_block ?_
    refine G_while (σ := Int) (ρ := (Unit) ⊕ ((List Int) × (List Balloon) × Int × Bool)) (fun s5760 a w' => Mem [] w w' [sg5275, sg5284, sg5285] ∧ Sat Try.f28.ntmps [(2, .int .i64 x5231), (10, .slice p5273 r5271.length c5274), (11, .slice p5282 r5280.length c5283), (30, .int .i64 (x5221.length : Int)), (31, .int .i64 s5760)] a) hw5768 (fun a ha => ⟨M5289.pick [0, 1, 2] (by kernel_rfl), ha.sub (by kernel_rfl)⟩) ?_
    clear hm
    intro s5760 x5761 hm hout5762 a5763 w5764 ⟨M5765, hS5766⟩
    refine G_use hS5766 ?_
    refine G_seq ?_
    refine G_region ?_
    refine W_run 1 [(2, .int .i64 x5231), (10, .slice p5273 r5271.length c5274), (11, .slice p5282 r5280.length c5283), (30, .int .i64 (x5221.length : Int)), (31, .int .i64 s5760), (32, .bool (decide (s5760 < (x5221.length : Int))))] w5764 (by kernel_rfl) ?_
    refine W_nil ?_
    refine N_then ?_
    refine G_seq ?_
    rcases gx_bif hm with ⟨hc5771, hm⟩ | ⟨hc5771, hm⟩
    · refine G_cond_t (b := (decide (s5760 < (x5221.length : Int)))) hc5771 (by kernel_rfl) ?_
      refine G_skip ?_
      refine N_then ?_
      refine G_seq ?_
      refine G_block ?_
      refine G_seq ?_
      refine G_region ?_
      refine W_run 2 [(2, .int .i64 x5231), (10, .slice p5273 r5271.length c5274), (11, .slice p5282 r5280.length c5283), (12, .int .i64 s5760), (30, .int .i64 (x5221.length : Int)), (31, .int .i64 s5760)] w5764 (by kernel_rfl) ?_
      refine W_nil ?_
      refine N_then ?_
      refine G_seq ?_
      refine G_region ?_
      refine W_run 3 [(2, .int .i64 x5231), (10, .slice p5273 r5271.length c5274), (11, .slice p5282 r5280.length c5283), (12, .int .i64 s5760), (30, .int .i64 (x5221.length : Int)), (31, .int .i64 s5760), (34, .slice p5282 r5280.length c5283), (35, .int .i64 (r5280.length : Int)), (36, .int .i64 0)] w5764 (by kernel_rfl) ?_
      refine W_nil ?_
      refine N_then ?_
      obtain ⟨out5913, hw5914, hmo5915⟩ := gx_bind hm
      refine G_meet (fun a w' => ∃ (o5916 : Unit), out5913 = .inl o5916 ∧ Mem [] w w' [sg5275, sg5284, sg5285] ∧ Sat Try.f28.ntmps [(2, .int .i64 x5231), (10, .slice p5273 r5271.length c5274), (11, .slice p5282 r5280.length c5283), (30, .int .i64 (x5221.length : Int)), (31, .int .i64 s5760)] a) ?_ ?_
      · refine G_block ?_
        refine G_while (σ := Int) (ρ := (Unit) ⊕ ((List Int) × (List Balloon) × Int × Bool)) (fun s5906 a w' => Mem [] w w' [sg5275, sg5284, sg5285] ∧ Sat Try.f28.ntmps [(2, .int .i64 x5231), (10, .slice p5273 r5271.length c5274), (11, .slice p5282 r5280.length c5283), (12, .int .i64 s5760), (30, .int .i64 (x5221.length : Int)), (31, .int .i64 s5760), (34, .slice p5282 r5280.length c5283), (35, .int .i64 (r5280.length : Int)), (36, .int .i64 s5906)] a) hw5914 (fun a ha => ⟨M5765.pick [0, 1, 2] (by kernel_rfl), ha.sub (by kernel_rfl)⟩) ?_
        clear hm
        intro s5906 x5907 hm hout5908 a5909 w5910 ⟨M5911, hS5912⟩
        refine G_use hS5912 ?_
        refine G_seq ?_
        refine G_region ?_
        refine W_run 1 [(2, .int .i64 x5231), (10, .slice p5273 r5271.length c5274), (11, .slice p5282 r5280.length c5283), (12, .int .i64 s5760), (30, .int .i64 (x5221.length : Int)), (31, .int .i64 s5760), (34, .slice p5282 r5280.length c5283), (35, .int .i64 (r5280.length : Int)), (36, .int .i64 s5906), (37, .bool (decide (s5906 < (r5280.length : Int))))] w5910 (by kernel_rfl) ?_
        refine W_nil ?_
        refine N_then ?_
        refine G_seq ?_
        rcases gx_bif hm with ⟨hc5917, hm⟩ | ⟨hc5917, hm⟩
        · refine G_cond_t (b := (decide (s5906 < (r5280.length : Int)))) hc5917 (by kernel_rfl) ?_
          refine G_skip ?_
          refine N_then ?_
          refine G_seq ?_
          refine G_block ?_
          refine G_seq ?_
          refine G_region ?_
          refine W_run 1 [(2, .int .i64 x5231), (10, .slice p5273 r5271.length c5274), (11, .slice p5282 r5280.length c5283), (12, .int .i64 s5760), (30, .int .i64 (x5221.length : Int)), (31, .int .i64 s5760), (34, .slice p5282 r5280.length c5283), (35, .int .i64 (r5280.length : Int)), (36, .int .i64 s5906), (38, .int .i64 s5906)] w5910 (by kernel_rfl) ?_
          obtain ⟨y5918, hy5918, hm⟩ := gx_bind hm
          obtain ⟨zs5919, hz5920, hr5921, hi5922⟩ := id ho5286
          obtain ⟨g5923, hg5924⟩ := gxIdx_fst hz5920 hy5918
          refine W_val (elemP p5282 (s5906.toNat * 3)) w5910 (by kernel_rfl) (E_index (E := deepBalloon.E) _ _ _ r5280.length c5283 .i64 s5906 3 (y := (y5918, g5923)) rfl (by kernel_rfl) (by kernel_rfl) (by kernel_rfl) (hr5921.rd M5911 1 (by kernel_rfl)) (len_fst hz5920) hg5924) ?_
          refine W_val (.agg #[.int .i64 y5918.Guest, .int .i64 y5918.Goal, .slice ((g5923 0).1) y5918.Gave.length ((g5923 0).2)]) w5910 (by kernel_rfl) (E_loadE (E := deepBalloon.E) _ _ true 3 s5906 0 (s5906.toNat * 3) (y5918, g5923) (.agg #[.int .i64 y5918.Guest, .int .i64 y5918.Goal, .slice ((g5923 0).1) y5918.Gave.length ((g5923 0).2)]) rfl (by kernel_rfl) (by kernel_rfl) (by kernel_rfl) (hr5921.rd M5911 1 (by kernel_rfl)) hg5924 rfl) ?_
          refine W_new (fun b => .pointer (some ⟨b, 0, none⟩)) (.cells ⟨[.int .i64 0, .int .i64 0, .slice none 0 0]⟩ 50 (0, 0)) M5911 rfl (by kernel_rfl) (by kernel_rfl) ?_
          intro b5928 w5929 M5930
          refine W_run 1 [(2, .int .i64 x5231), (10, .slice p5273 r5271.length c5274), (11, .slice p5282 r5280.length c5283), (12, .int .i64 s5760), (13, .int .i64 s5906), (14, .pointer (some ⟨b5928, 0, none⟩)), (30, .int .i64 (x5221.length : Int)), (31, .int .i64 s5760), (34, .slice p5282 r5280.length c5283), (35, .int .i64 (r5280.length : Int)), (36, .int .i64 s5906), (40, .agg #[.int .i64 y5918.Guest, .int .i64 y5918.Goal, .slice ((g5923 0).1) y5918.Gave.length ((g5923 0).2)])] w5929 (by kernel_rfl) ?_
          refine W_store _ _ _ true 3 b5928 0 [.int .i64 0, .int .i64 0, .slice none 0 0] 50 (.agg #[.int .i64 y5918.Guest, .int .i64 y5918.Goal, .slice ((g5923 0).1) y5918.Gave.length ((g5923 0).2)]) 3 [.int .i64 y5918.Guest, .int .i64 y5918.Goal, .slice ((g5923 0).1) y5918.Gave.length ((g5923 0).2)] M5930 (by kernel_rfl) rfl (by kernel_rfl) (by kernel_rfl) (by kernel_rfl) (by kernel_rfl) (by kernel_rfl) (by kernel_rfl) (by kernel_rfl) (by kernel_rfl) ?_
          intro w5931 M5932
          refine W_nil ?_
          refine N_then ?_
          refine G_seq ?_
          refine G_region ?_
          refine W_run 1 [(2, .int .i64 x5231), (10, .slice p5273 r5271.length c5274), (11, .slice p5282 r5280.length c5283), (12, .int .i64 s5760), (13, .int .i64 s5906), (14, .pointer (some ⟨b5928, 0, none⟩)), (30, .int .i64 (x5221.length : Int)), (31, .int .i64 s5760), (34, .slice p5282 r5280.length c5283), (35, .int .i64 (r5280.length : Int)), (36, .int .i64 s5906), (41, .pointer (some ⟨b5928, 2, none⟩))] w5931 (by kernel_rfl) ?_
          refine W_val (.slice ((g5923 0).1) y5918.Gave.length ((g5923 0).2)) w5931 (by kernel_rfl) (E_load (e := 50) (fr := (0, 0)) _ _ false 1 b5928 2 [.int .i64 y5918.Guest, .int .i64 y5918.Goal, .slice ((g5923 0).1) y5918.Gave.length ((g5923 0).2)] (.slice ((g5923 0).1) y5918.Gave.length ((g5923 0).2)) rfl (by kernel_rfl) (by kernel_rfl) (by kernel_rfl) (M5932.blk 3 (b := b5928) (o := .cells ⟨[.int .i64 y5918.Guest, .int .i64 y5918.Goal, .slice ((g5923 0).1) y5918.Gave.length ((g5923 0).2)]⟩ 50 (0, 0)) (by kernel_rfl))) ?_
          refine W_run 1 [(2, .int .i64 x5231), (10, .slice p5273 r5271.length c5274), (11, .slice p5282 r5280.length c5283), (12, .int .i64 s5760), (13, .int .i64 s5906), (14, .pointer (some ⟨b5928, 0, none⟩)), (30, .int .i64 (x5221.length : Int)), (31, .int .i64 s5760), (34, .slice p5282 r5280.length c5283), (35, .int .i64 (r5280.length : Int)), (36, .int .i64 s5906), (42, .slice ((g5923 0).1) y5918.Gave.length ((g5923 0).2)), (43, .int .i64 s5760)] w5931 (by kernel_rfl) ?_
          obtain ⟨r5933, hr5933, hm⟩ := gx_bind hm
          refine W_call 63 #[.slice ((g5923 0).1) y5918.Gave.length ((g5923 0).2), .int .i64 s5760] (by kernel_rfl) (by kernel_rfl) ?_
          refine (c_slices_Index_63 w5931 y5918.Gave ((g5923 0).1) ((g5923 0).2) ((hi5922.rd M5932 2 (by kernel_rfl)).at_ hg5924 0 ⟨Int, Gx.encI, y5918.Gave, (g5923 0).1, (g5923 0).2⟩ (by kernel_rfl)) s5760 hr5933).mono ?_
          rintro e_ w5934 ⟨rfl, K5935⟩
          have M5936 := M5932.call0 K5935
          refine ⟨_, rfl, ?_⟩
          refine W_run 1 [(2, .int .i64 x5231), (10, .slice p5273 r5271.length c5274), (11, .slice p5282 r5280.length c5283), (12, .int .i64 s5760), (13, .int .i64 s5906), (14, .pointer (some ⟨b5928, 0, none⟩)), (15, .int .i64 r5933), (30, .int .i64 (x5221.length : Int)), (31, .int .i64 s5760), (34, .slice p5282 r5280.length c5283), (35, .int .i64 (r5280.length : Int)), (36, .int .i64 s5906)] w5934 (by kernel_rfl) ?_
          refine W_nil ?_
          refine N_then ?_
          refine G_seq ?_
          refine G_region ?_
          refine W_run 2 [(2, .int .i64 x5231), (10, .slice p5273 r5271.length c5274), (11, .slice p5282 r5280.length c5283), (12, .int .i64 s5760), (13, .int .i64 s5906), (14, .pointer (some ⟨b5928, 0, none⟩)), (15, .int .i64 r5933), (30, .int .i64 (x5221.length : Int)), (31, .int .i64 s5760), (34, .slice p5282 r5280.length c5283), (35, .int .i64 (r5280.length : Int)), (36, .int .i64 s5906), (46, .bool (decide (r5933 ≥ 0)))] w5934 (by kernel_rfl) ?_
          refine W_nil ?_
          refine N_then ?_
          rcases gx_bif hm with ⟨hc5937, hm⟩ | ⟨hc5937, hm⟩
          · refine G_cond_t (b := (decide (r5933 ≥ 0))) hc5937 (by kernel_rfl) ?_
            refine G_seq ?_
            refine G_region ?_
            refine W_run 3 [(2, .int .i64 x5231), (10, .slice p5273 r5271.length c5274), (11, .slice p5282 r5280.length c5283), (12, .int .i64 s5760), (15, .int .i64 r5933), (47, .slice p5282 r5280.length c5283), (48, .int .i64 s5906), (49, .pointer (some ⟨b5928, 2, none⟩))] w5934 (by kernel_rfl) ?_
            refine W_val (.slice ((g5923 0).1) y5918.Gave.length ((g5923 0).2)) w5934 (by kernel_rfl) (E_load (e := 50) (fr := (0, 0)) _ _ false 1 b5928 2 [.int .i64 y5918.Guest, .int .i64 y5918.Goal, .slice ((g5923 0).1) y5918.Gave.length ((g5923 0).2)] (.slice ((g5923 0).1) y5918.Gave.length ((g5923 0).2)) rfl (by kernel_rfl) (by kernel_rfl) (by kernel_rfl) (M5936.blk 3 (b := b5928) (o := .cells ⟨[.int .i64 y5918.Guest, .int .i64 y5918.Goal, .slice ((g5923 0).1) y5918.Gave.length ((g5923 0).2)]⟩ 50 (0, 0)) (by kernel_rfl))) ?_
            refine W_run 3 [(2, .int .i64 x5231), (10, .slice p5273 r5271.length c5274), (11, .slice p5282 r5280.length c5283), (12, .int .i64 s5760), (47, .slice p5282 r5280.length c5283), (48, .int .i64 s5906), (50, .slice ((g5923 0).1) y5918.Gave.length ((g5923 0).2)), (51, .int .i64 r5933), (53, .int .i64 (w64 (r5933 + 1)))] w5934 (by kernel_rfl) ?_
            obtain ⟨sa5939, sb5940, sc5941, hs5942, hb5943, hp5944⟩ := hi5922.lens (gxIdx_spec hg5924).2
            have M5945 := M5936.cut 2 (sa := sa5939) (sb := sb5940) (sc := sc5941) hs5942 (by kernel_rfl)
            obtain ⟨u5946, r5947, hu5948, ho5949, hr5950⟩ := hb5943
            have M5951 := M5945.cut 4 (sa := []) (sb := u5946) (sc := r5947) hu5948 (by kernel_rfl)
            obtain ⟨r5938, hr5938, hm⟩ := gx_bind hm
            refine W_call 64 #[.slice ((g5923 0).1) y5918.Gave.length ((g5923 0).2), .int .i64 r5933, .int .i64 (w64 (r5933 + 1))] (by kernel_rfl) (by kernel_rfl) ?_
            refine (c_slices_Delete_64 w5934 y5918.Gave ((g5923 0).1) ((g5923 0).2) u5946 ho5949 r5933 (w64 (r5933 + 1)) (M5951.hasPick [6]) (M5951.nodupPick [6] (by kernel_rfl)) hr5938).mono ?_
            rintro e_ w5963 ⟨sg5953, p5961, c5962, rfl, ho5954, hl5955, hw5960, K5964⟩
            obtain ⟨l5957, h5958, rfl, rfl, hv5959⟩ := hw5960
            have M5965 := M5951.callF' [6] [0, 1, 2, 3, 4, 5, 7] (by kernel_rfl) K5964
            refine ⟨_, rfl, ?_⟩
            refine W_conv 50 (.slice ((g5923 0).1) y5918.Gave.length ((g5923 0).2)) (.slice ((g5923 0).1) r5938.2.length ((g5923 0).2)) (by kernel_rfl) (by first | rw [hl5955] | rw [hl5955]) ?_
            have M5966 : Mem [] w w5963 [sg5275, sg5284, sa5939, [(b5928, .cells ⟨[.int .i64 y5918.Guest, .int .i64 y5918.Goal, .slice ((g5923 0).1) r5938.2.length ((g5923 0).2)]⟩ 50 (0, 0))], [], sc5941, r5947, sg5953] := by rw [hl5955]; exact M5965
            obtain ⟨y5967, hy5967, hm⟩ := gx_bind hm
            obtain ⟨g5968, hg5969⟩ := gxIdx_fst hz5920 hy5967
            refine W_val (elemP p5282 (s5906.toNat * 3)) w5963 (by kernel_rfl) (E_index (E := deepBalloon.E) _ _ _ r5280.length c5283 .i64 s5906 3 (y := (y5967, g5968)) rfl (by kernel_rfl) (by kernel_rfl) (by kernel_rfl) (hr5921.rd M5966 1 (by kernel_rfl)) (len_fst hz5920) hg5969) ?_
            refine W_val (elemP p5282 (s5906.toNat * 3 + 2)) w5963 (by kernel_rfl) (E_fieldE (E := deepBalloon.E) _ _ 2 (s5906.toNat * 3) 2 rfl (by kernel_rfl) (by kernel_rfl) (hr5921.rd M5966 1 (by kernel_rfl)) hg5969) ?_
            refine W_storeE (E := deepBalloon.E) _ _ _ false 1 s5906.toNat 2 (s5906.toNat * 3 + 2) (y5918, g5923) ((⟨y5918.Guest, y5918.Goal, r5938.1⟩ : Balloon), (plOf [((subP ((g5923 0).1) l5957.toNat ((g5923 0).2) 1), (((g5923 0).2) - l5957.toNat))])) (.slice (subP ((g5923 0).1) l5957.toNat ((g5923 0).2) 1) r5938.1.length (((g5923 0).2) - l5957.toNat)) 1 M5966 hr5921 (by kernel_rfl) (by kernel_rfl) rfl (by kernel_rfl) (by kernel_rfl) (by kernel_rfl) (by kernel_rfl) (by kernel_rfl) (by kernel_rfl) (by kernel_rfl) (gxIdx_spec hg5924).2 rfl ?_
            intro w5971 sg5973 ho5974 M5972
            have M5975 : Mem [] w w5971 [sg5275, sg5973, [(b5928, .cells ⟨[.int .i64 y5918.Guest, .int .i64 y5918.Goal, .slice ((g5923 0).1) r5938.2.length ((g5923 0).2)]⟩ 50 (0, 0))], [], sa5939, sg5953, sc5941] := M5972.pick [0, 1, 3, 4, 2, 7, 5] (by kernel_rfl)
            have M5976 : Mem [] w w5971 [sg5275, sg5973, [(b5928, .cells ⟨[.int .i64 y5918.Guest, .int .i64 y5918.Goal, .slice ((g5923 0).1) r5938.2.length ((g5923 0).2)]⟩ 50 (0, 0))], [], (sa5939 ++ ((sg5953 ++ []) ++ sc5941))] := M5975.regroup (by simp)
            have ho5977 : ownD deepBalloon (r5280.set s5906.toNat (⟨y5918.Guest, y5918.Goal, r5938.1⟩ : Balloon)) p5282 c5283 sg5973 (sa5939 ++ ((sg5953 ++ []) ++ sc5941)) := ⟨_, set_fst hz5920 s5906.toNat ((⟨y5918.Guest, y5918.Goal, r5938.1⟩ : Balloon), (plOf [((subP ((g5923 0).1) l5957.toNat ((g5923 0).2) 1), (((g5923 0).2) - l5957.toNat))])), ho5974, hp5944 ((⟨y5918.Guest, y5918.Goal, r5938.1⟩ : Balloon), (plOf [((subP ((g5923 0).1) l5957.toNat ((g5923 0).2) 1), (((g5923 0).2) - l5957.toNat))])) _ (ownI_cons (i := ⟨Int, Gx.encI, _, _, _⟩) (ho5954.partM hv5959) ownI_nil)⟩
            have hput5978 := gxIdx_put (⟨y5918.Guest, y5918.Goal, r5938.1⟩ : Balloon) (gxIdx_down hz5920 hg5924)
            refine W_conv 11 (.slice p5282 r5280.length c5283) (.slice p5282 (r5280.set s5906.toNat (⟨y5918.Guest, y5918.Goal, r5938.1⟩ : Balloon)).length c5283) (by kernel_rfl) (by rw [@List.length_set _ r5280 s5906.toNat (⟨y5918.Guest, y5918.Goal, r5938.1⟩ : Balloon)]) ?_
            refine W_conv 47 (.slice p5282 r5280.length c5283) (.slice p5282 (r5280.set s5906.toNat (⟨y5918.Guest, y5918.Goal, r5938.1⟩ : Balloon)).length c5283) (by kernel_rfl) (by rw [@List.length_set _ r5280 s5906.toNat (⟨y5918.Guest, y5918.Goal, r5938.1⟩ : Balloon)]) ?_
            refine W_nil ?_
            refine N_then ?_
            refine G_seq ?_
            refine G_region ?_
            refine W_run 3 [(10, .slice p5273 r5271.length c5274), (11, .slice p5282 (r5280.set s5906.toNat (⟨y5918.Guest, y5918.Goal, r5938.1⟩ : Balloon)).length c5283), (12, .int .i64 s5760), (57, .slice p5273 r5271.length c5274), (58, .int .i64 s5760), (59, .int .i64 x5231)] w5971 (by kernel_rfl) ?_
            obtain ⟨y5979, hy5979, hm⟩ := gx_bind hm
            refine W_val (elemP p5273 (s5760.toNat * 1)) w5971 (by kernel_rfl) (E_index (E := Gx.encI) _ _ _ r5271.length c5274 .i64 s5760 1 (y := y5979) rfl (by kernel_rfl) (by kernel_rfl) (by kernel_rfl) (ho5276.rd M5976 0 (by kernel_rfl)) rfl hy5979) ?_
            refine W_storeE (E := Gx.encI) _ _ _ false 1 s5760.toNat 0 (s5760.toNat * 1) y5979 x5231 (.int .i64 x5231) 0 M5976 ho5276 (by kernel_rfl) (by kernel_rfl) rfl (by kernel_rfl) (by kernel_rfl) (by kernel_rfl) (by kernel_rfl) (by kernel_rfl) (by kernel_rfl) (by kernel_rfl) (gxIdx_spec hy5979).2 rfl ?_
            intro w5980 sg5982 ho5983 M5981
            refine W_conv 10 (.slice p5273 r5271.length c5274) (.slice p5273 (r5271.set s5760.toNat x5231).length c5274) (by kernel_rfl) (by rw [@List.length_set _ r5271 s5760.toNat x5231]) ?_
            refine W_conv 57 (.slice p5273 r5271.length c5274) (.slice p5273 (r5271.set s5760.toNat x5231).length c5274) (by kernel_rfl) (by rw [@List.length_set _ r5271 s5760.toNat x5231]) ?_
            refine W_nil ?_
            refine N_then ?_
            refine G_seq ?_
            refine G_region ?_
            refine W_run 7 [(6, .slice p5273 (r5271.set s5760.toNat x5231).length c5274), (7, .slice p5282 (r5280.set s5906.toNat (⟨y5918.Guest, y5918.Goal, r5938.1⟩ : Balloon)).length c5283), (8, .int .i64 s5760), (9, .bool true)] w5980 (by kernel_rfl) ?_
            refine W_nil ?_
            refine N_then ?_
            refine G_ret ?_
            refine N_block_ret ?_
            refine N_then_ret ?_
            refine N_then_ret ?_
            obtain rfl := Option.some.inj hm
            obtain rfl := hout5908 _ rfl
            have hm := hmo5915; simp only [Sum.elim_inr] at hm
            refine N_block_ret ?_
            refine N_meet_ret ?_
            refine N_block_ret ?_
            refine N_then_ret ?_
            refine N_then_ret ?_
            obtain rfl := Option.some.inj hm
            obtain rfl := hout5762 _ rfl
            have hm := hmo5769; simp only [Sum.elim_inr] at hm
            refine N_block_ret ?_
            refine N_meet_ret ?_
            refine N_then_ret ?_
            obtain rfl := Option.some.inj hm
            refine N_ret [.slice p5273 (r5271.set s5760.toNat x5231).length c5274, .slice p5282 (r5280.set s5906.toNat (⟨y5918.Guest, y5918.Goal, r5938.1⟩ : Balloon)).length c5283, .int .i64 s5760, .bool true] (RVs_cons (RV_tmp (by kernel_rfl)) (RVs_cons (RV_tmp (by kernel_rfl)) (RVs_cons (RV_tmp (by kernel_rfl)) (RVs_cons (RV_tmp (by kernel_rfl)) RVs_nil)))) ?_
            exact ⟨p5273, c5274, sg5982, p5282, c5283, sg5973, (sa5939 ++ ((sg5953 ++ []) ++ sc5941)), rfl, ho5983, ho5977, M5981.pick [0, 1, 4] (by kernel_rfl)⟩
          refine G_cond_f (b := (decide (r5933 ≥ 0))) hc5937 (by kernel_rfl) ?_
          refine G_skip ?_
          refine N_block ?_
          refine N_then ?_
          refine G_region ?_
          refine W_run 2 [(2, .int .i64 x5231), (10, .slice p5273 r5271.length c5274), (11, .slice p5282 r5280.length c5283), (12, .int .i64 s5760), (30, .int .i64 (x5221.length : Int)), (31, .int .i64 s5760), (34, .slice p5282 r5280.length c5283), (35, .int .i64 (r5280.length : Int)), (36, .int .i64 (w64 (s5906 + 1)))] w5934 (by kernel_rfl) ?_
          refine W_nil ?_
          obtain rfl := Option.some.inj hm
          exact N_loop fun a ha => ⟨_, rfl, M5936.pick [0, 1, 2] (by kernel_rfl), ha.sub (by kernel_rfl)⟩
        refine G_cond_f (b := (decide (s5906 < (r5280.length : Int)))) hc5917 (by kernel_rfl) ?_
        refine G_exit ?_
        refine N_then_exit ?_
        refine N_then_exit ?_
        refine N_block_eq ?_
        obtain rfl := Option.some.inj hm
        obtain rfl := hout5908 _ rfl
        exact N_meet fun a ha => ⟨_, rfl, M5911.pick [0, 1, 2] (by kernel_rfl), ha.sub (by kernel_rfl)⟩
      intro a5984 w5985 ⟨o5916, hout_, M5986, hS5987⟩
      refine N_use hS5987 ?_
      subst hout_
      have hm := hmo5915; simp only [Sum.elim_inl] at hm
      refine N_block ?_
      refine N_then ?_
      refine G_region ?_
      refine W_run 2 [(2, .int .i64 x5231), (10, .slice p5273 r5271.length c5274), (11, .slice p5282 r5280.length c5283), (30, .int .i64 (x5221.length : Int)), (31, .int .i64 (w64 (s5760 + 1)))] w5985 (by kernel_rfl) ?_
      refine W_nil ?_
      obtain rfl := Option.some.inj hm
      exact N_loop fun a ha => ⟨_, rfl, M5986.pick [0, 1, 2] (by kernel_rfl), ha.sub (by kernel_rfl)⟩
    refine G_cond_f (b := (decide (s5760 < (x5221.length : Int)))) hc5771 (by kernel_rfl) ?_
    refine G_exit ?_
    refine N_then_exit ?_
    refine N_then_exit ?_
    refine N_block_eq ?_
    obtain rfl := Option.some.inj hm
    obtain rfl := hout5762 _ rfl
    exact N_meet fun a ha => ⟨_, rfl, M5765.pick [] (by kernel_rfl), ha.sub (by kernel_rfl)⟩
  intro a5988 w5989 ⟨o5770, hout_, M5990, hS5991⟩
  refine N_use hS5991 ?_
  subst hout_
  have hm := hmo5769; simp only [Sum.elim_inl] at hm
  refine N_then ?_
  refine G_seq ?_
  refine G_region ?_
  refine W_run 4 [(6, .slice none 0 0), (7, .slice none 0 0), (8, .int .i64 0), (9, .bool false)] w5989 (by kernel_rfl) ?_
  refine W_nil ?_
  refine N_then ?_
  refine G_ret ?_
  obtain rfl := Option.some.inj hm
  refine N_ret [.slice none 0 0, .slice none 0 0, .int .i64 0, .bool false] (RVs_cons (RV_tmp (by kernel_rfl)) (RVs_cons (RV_tmp (by kernel_rfl)) (RVs_cons (RV_tmp (by kernel_rfl)) (RVs_cons (RV_tmp (by kernel_rfl)) RVs_nil)))) ?_
  exact ⟨none, 0, [], none, 0, [], [], rfl, ownS_nil, ownD_nil, M5990.pick [100000, 100001, 100002] (by kernel_rfl)⟩
theorem c_l_FnExactTakeGiven (w : World) (x4485 : List Int) (p4487 : Option Addr) (c4488 : Nat) (h4489 : rdS Gx.encI w x4485 p4487 c4488) (x4490 : List Balloon) (p4492 : Option Addr) (c4493 : Nat) (h4494 : rdD deepBalloon w x4490 p4492 c4493) (x4495 : Int) {r : Bool} (hm : M.l_FnExactTakeGiven x4485 x4490 x4495 = some r) :
    Calls Try.prog 6 #[.slice p4487 x4485.length c4488, .slice p4492 x4490.length c4493, .int .i64 x4495] w fun e w' => e = .returned (.bool r) ∧ Mem [] w w' [] := by
  unfold M.l_FnExactTakeGiven at hm
  refine C_enter Try.func6 rfl (by kernel_rfl) ?_
  have M0 := Mem.refl [] w
  refine G_seq ?_
  refine G_region ?_
  refine W_run 1 [(0, .slice p4487 x4485.length c4488), (1, .slice p4492 x4490.length c4493), (2, .int .i64 x4495)] w (by kernel_rfl) ?_
  refine W_nil ?_
  refine N_then ?_
  refine G_seq ?_
  refine G_seq ?_
  refine G_region ?_
  refine W_run 3 [(0, .slice p4487 x4485.length c4488), (1, .slice p4492 x4490.length c4493), (2, .int .i64 x4495), (27, .bool (decide ((x4485.length : Int) > 1048576)))] w (by kernel_rfl) ?_
  refine W_nil ?_
  refine N_then ?_
  rcases gx_bif hm with ⟨hc4496, hm⟩ | ⟨hc4496, hm⟩
  · refine G_cond_t (b := (decide ((x4485.length : Int) > 1048576))) hc4496 (by kernel_rfl) ?_
    refine G_seq ?_
    refine G_region ?_
    refine W_run 1 [(6, .bool true)] w (by kernel_rfl) ?_
    refine W_nil ?_
    refine N_then ?_
    refine G_ret ?_
    refine N_then_ret ?_
    obtain rfl := Option.some.inj hm
    refine N_ret [.bool true] (RVs_cons (RV_tmp (by kernel_rfl)) RVs_nil) ?_
    exact ⟨rfl, M0.pick [] (by kernel_rfl)⟩
  refine G_cond_f (b := (decide ((x4485.length : Int) > 1048576))) hc4496 (by kernel_rfl) ?_
  refine G_skip ?_
  refine N_then ?_
  refine G_seq ?_
  refine G_region ?_
  refine W_run 1 [(0, .slice p4487 x4485.length c4488), (1, .slice p4492 x4490.length c4493), (2, .int .i64 x4495), (7, .int .i64 1048576)] w (by kernel_rfl) ?_
  refine W_nil ?_
  refine N_then ?_
  refine G_seq ?_
  refine G_region ?_
  refine W_run 2 [(0, .slice p4487 x4485.length c4488), (1, .slice p4492 x4490.length c4493), (2, .int .i64 x4495), (7, .int .i64 1048576), (28, .slice p4492 x4490.length c4493), (29, .int .i64 1048576)] w (by kernel_rfl) ?_
  obtain ⟨r4497, hr4497, hm⟩ := gx_bind hm
  refine W_call 13 #[.slice p4492 x4490.length c4493, .int .i64 1048576] (by kernel_rfl) (by kernel_rfl) ?_
  refine (c_l_szBalloonS w x4490 p4492 c4493 (h4494.mem0 M0) 1048576 hr4497).mono ?_
  rintro e_ w4498 ⟨rfl, K4499⟩
  have M4500 := M0.call0 K4499
  refine ⟨_, rfl, ?_⟩
  refine W_run 1 [(0, .slice p4487 x4485.length c4488), (1, .slice p4492 x4490.length c4493), (2, .int .i64 x4495), (7, .int .i64 r4497)] w4498 (by kernel_rfl) ?_
  refine W_nil ?_
  refine N_then ?_
  refine G_seq ?_
  refine G_seq ?_
  refine G_region ?_
  refine W_run 2 [(0, .slice p4487 x4485.length c4488), (1, .slice p4492 x4490.length c4493), (2, .int .i64 x4495), (32, .bool (decide (r4497 < 0)))] w4498 (by kernel_rfl) ?_
  refine W_nil ?_
  refine N_then ?_
  rcases gx_bif hm with ⟨hc4501, hm⟩ | ⟨hc4501, hm⟩
  · refine G_cond_t (b := (decide (r4497 < 0))) hc4501 (by kernel_rfl) ?_
    refine G_seq ?_
    refine G_region ?_
    refine W_run 1 [(6, .bool true)] w4498 (by kernel_rfl) ?_
    refine W_nil ?_
    refine N_then ?_
    refine G_ret ?_
    refine N_then_ret ?_
    obtain rfl := Option.some.inj hm
    refine N_ret [.bool true] (RVs_cons (RV_tmp (by kernel_rfl)) RVs_nil) ?_
    exact ⟨rfl, M4500.pick [] (by kernel_rfl)⟩
  refine G_cond_f (b := (decide (r4497 < 0))) hc4501 (by kernel_rfl) ?_
  refine G_skip ?_
  refine N_then ?_
  refine G_seq ?_
  refine G_region ?_
  refine W_run 1 [(0, .slice p4487 x4485.length c4488), (1, .slice p4492 x4490.length c4493), (2, .int .i64 x4495), (34, .slice p4487 x4485.length c4488)] w4498 (by kernel_rfl) ?_
  obtain ⟨r4502, hr4502, hm⟩ := gx_bind hm
  refine W_call 15 #[.slice p4487 x4485.length c4488] (by kernel_rfl) (by kernel_rfl) ?_
  refine (c_l_toIntS w4498 x4485 p4487 c4488 (h4489.mem0 M4500) hr4502).mono ?_
  rintro e_ w4508 ⟨p4504, c4505, sg4506, rfl, ho4507, K4509⟩
  have M4510 := M4500.call K4509
  refine ⟨_, rfl, ?_⟩
  refine W_run 1 [(0, .slice p4487 x4485.length c4488), (1, .slice p4492 x4490.length c4493), (2, .int .i64 x4495), (35, .slice p4504 r4502.length c4505), (36, .slice p4492 x4490.length c4493)] w4508 (by kernel_rfl) ?_
  obtain ⟨r4511, hr4511, hm⟩ := gx_bind hm
  refine W_call 16 #[.slice p4492 x4490.length c4493] (by kernel_rfl) (by kernel_rfl) ?_
  refine (c_l_toBalloonS w4508 x4490 p4492 c4493 (h4494.mem0 M4510) hr4511).mono ?_
  rintro e_ w4518 ⟨p4513, c4514, sg4515, sg4516, rfl, ho4517, K4519⟩
  have M4520 := M4510.call K4519
  refine ⟨_, rfl, ?_⟩
  refine W_run 1 [(0, .slice p4487 x4485.length c4488), (1, .slice p4492 x4490.length c4493), (2, .int .i64 x4495), (35, .slice p4504 r4502.length c4505), (37, .slice p4513 r4511.length c4514), (38, .int .i64 x4495)] w4518 (by kernel_rfl) ?_
  obtain ⟨r5187, hr5187, hm⟩ := gx_bind hm
  refine W_call 27 #[.slice p4504 r4502.length c4505, .slice p4513 r4511.length c4514, .int .i64 x4495] (by kernel_rfl) (by kernel_rfl) ?_
  refine (c_s_TakeGiven w4518 r4502 p4504 c4505 (ho4507.rd M4520 0 (by kernel_rfl)) r4511 p4513 c4514 (ho4517.rd M4520 1 (by kernel_rfl) 2 (by kernel_rfl)) x4495 hr5187).mono ?_
  rintro e_ w5199 ⟨p5189, c5190, sg5191, p5194, c5195, sg5196, sg5197, rfl, ho5192, ho5198, K5200⟩
  have M5201 := M4520.call K5200
  refine ⟨_, rfl, ?_⟩
  refine W_run 9 [(0, .slice p4487 x4485.length c4488), (1, .slice p4492 x4490.length c4493), (2, .int .i64 x4495), (8, .slice p5189 r5187.1.length c5190), (9, .slice p5194 r5187.2.1.length c5195), (10, .int .i64 r5187.2.2.1), (11, .bool r5187.2.2.2)] w5199 (by kernel_rfl) ?_
  refine W_nil ?_
  refine N_then ?_
  refine G_seq ?_
  refine G_region ?_
  refine W_run 1 [(0, .slice p4487 x4485.length c4488), (1, .slice p4492 x4490.length c4493), (2, .int .i64 x4495), (8, .slice p5189 r5187.1.length c5190), (9, .slice p5194 r5187.2.1.length c5195), (10, .int .i64 r5187.2.2.1), (11, .bool r5187.2.2.2), (44, .slice p4487 x4485.length c4488)] w5199 (by kernel_rfl) ?_
  obtain ⟨r5202, hr5202, hm⟩ := gx_bind hm
  refine W_call 15 #[.slice p4487 x4485.length c4488] (by kernel_rfl) (by kernel_rfl) ?_
  refine (c_l_toIntS w5199 x4485 p4487 c4488 (h4489.mem0 M5201) hr5202).mono ?_
  rintro e_ w5208 ⟨p5204, c5205, sg5206, rfl, ho5207, K5209⟩
  have M5210 := M5201.call K5209
  refine ⟨_, rfl, ?_⟩
  refine W_run 1 [(0, .slice p4487 x4485.length c4488), (1, .slice p4492 x4490.length c4493), (2, .int .i64 x4495), (8, .slice p5189 r5187.1.length c5190), (9, .slice p5194 r5187.2.1.length c5195), (10, .int .i64 r5187.2.2.1), (11, .bool r5187.2.2.2), (12, .slice p5204 r5202.length c5205)] w5208 (by kernel_rfl) ?_
  refine W_nil ?_
  refine N_then ?_
  refine G_seq ?_
  refine G_region ?_
  refine W_run 1 [(0, .slice p4487 x4485.length c4488), (1, .slice p4492 x4490.length c4493), (2, .int .i64 x4495), (8, .slice p5189 r5187.1.length c5190), (9, .slice p5194 r5187.2.1.length c5195), (10, .int .i64 r5187.2.2.1), (11, .bool r5187.2.2.2), (12, .slice p5204 r5202.length c5205), (46, .slice p4492 x4490.length c4493)] w5208 (by kernel_rfl) ?_
  obtain ⟨r5211, hr5211, hm⟩ := gx_bind hm
  refine W_call 16 #[.slice p4492 x4490.length c4493] (by kernel_rfl) (by kernel_rfl) ?_
  refine (c_l_toBalloonS w5208 x4490 p4492 c4493 (h4494.mem0 M5210) hr5211).mono ?_
  rintro e_ w5218 ⟨p5213, c5214, sg5215, sg5216, rfl, ho5217, K5219⟩
  have M5220 := M5210.call K5219
  refine ⟨_, rfl, ?_⟩
  refine W_run 1 [(0, .slice p4487 x4485.length c4488), (1, .slice p4492 x4490.length c4493), (2, .int .i64 x4495), (8, .slice p5189 r5187.1.length c5190), (9, .slice p5194 r5187.2.1.length c5195), (10, .int .i64 r5187.2.2.1), (11, .bool r5187.2.2.2), (12, .slice p5204 r5202.length c5205), (13, .slice p5213 r5211.length c5214)] w5218 (by kernel_rfl) ?_
  refine W_nil ?_
  refine N_then ?_
  refine G_seq ?_
  refine G_region ?_
  refine W_run 3 [(0, .slice p4487 x4485.length c4488), (1, .slice p4492 x4490.length c4493), (2, .int .i64 x4495), (8, .slice p5189 r5187.1.length c5190), (9, .slice p5194 r5187.2.1.length c5195), (10, .int .i64 r5187.2.2.1), (11, .bool r5187.2.2.2), (12, .slice p5204 r5202.length c5205), (13, .slice p5213 r5211.length c5214), (49, .slice p5204 r5202.length c5205), (50, .slice p5213 r5211.length c5214), (51, .int .i64 x4495)] w5218 (by kernel_rfl) ?_
  obtain ⟨r5994, hr5994, hm⟩ := gx_bind hm
  refine W_call 28 #[.slice p5204 r5202.length c5205, .slice p5213 r5211.length c5214, .int .i64 x4495] (by kernel_rfl) (by kernel_rfl) ?_
  refine (c_i_TakeGiven w5218 r5202 p5204 c5205 (ho5207.rd M5220 6 (by kernel_rfl)) r5211 p5213 c5214 (ho5217.rd M5220 7 (by kernel_rfl) 8 (by kernel_rfl)) x4495 hr5994).mono ?_
  rintro e_ w6006 ⟨p5996, c5997, sg5998, p6001, c6002, sg6003, sg6004, rfl, ho5999, ho6005, K6007⟩
  have M6008 := M5220.call K6007
  refine ⟨_, rfl, ?_⟩
  refine W_run 9 [(0, .slice p4487 x4485.length c4488), (1, .slice p4492 x4490.length c4493), (2, .int .i64 x4495), (8, .slice p5189 r5187.1.length c5190), (9, .slice p5194 r5187.2.1.length c5195), (10, .int .i64 r5187.2.2.1), (11, .bool r5187.2.2.2), (12, .slice p5204 r5202.length c5205), (13, .slice p5213 r5211.length c5214), (14, .slice p5996 r5994.1.length c5997), (15, .slice p6001 r5994.2.1.length c6002), (16, .int .i64 r5994.2.2.1), (17, .bool r5994.2.2.2)] w6006 (by kernel_rfl) ?_
  refine W_nil ?_
  refine N_then ?_
  refine G_seq ?_
  refine G_seq ?_
  obtain ⟨o6020, ho6021, hm6022⟩ := gx_bind hm
  refine G_meet (fun a w' => Mem [] w w' [sg5191, sg5196, sg5197, sg5206, sg5215, sg5216, sg5998, sg6003, sg6004] ∧ Sat Try.f6.ntmps [(0, .slice p4487 x4485.length c4488), (1, .slice p4492 x4490.length c4493), (2, .int .i64 x4495), (8, .slice p5189 r5187.1.length c5190), (9, .slice p5194 r5187.2.1.length c5195), (10, .int .i64 r5187.2.2.1), (11, .bool r5187.2.2.2), (12, .slice p5204 r5202.length c5205), (13, .slice p5213 r5211.length c5214), (14, .slice p5996 r5994.1.length c5997), (15, .slice p6001 r5994.2.1.length c6002), (16, .int .i64 r5994.2.2.1), (17, .bool r5994.2.2.2), (76, .bool o6020)] a) ?_ ?_
  · have hm := ho6021
    refine G_region ?_
    refine W_run 2 [(0, .slice p4487 x4485.length c4488), (1, .slice p4492 x4490.length c4493), (2, .int .i64 x4495), (8, .slice p5189 r5187.1.length c5190), (9, .slice p5194 r5187.2.1.length c5195), (10, .int .i64 r5187.2.2.1), (11, .bool r5187.2.2.2), (12, .slice p5204 r5202.length c5205), (13, .slice p5213 r5211.length c5214), (14, .slice p5996 r5994.1.length c5997), (15, .slice p6001 r5994.2.1.length c6002), (16, .int .i64 r5994.2.2.1), (17, .bool r5994.2.2.2), (57, .slice p5996 r5994.1.length c5997), (58, .slice p5189 r5187.1.length c5190)] w6006 (by kernel_rfl) ?_
    obtain ⟨r6023, hr6023, hm⟩ := gx_bind hm
    refine W_call 18 #[.slice p5996 r5994.1.length c5997, .slice p5189 r5187.1.length c5190] (by kernel_rfl) (by kernel_rfl) ?_
    refine (c_l_eqIntS w6006 r5994.1 p5996 c5997 (ho5999.rd M6008 9 (by kernel_rfl)) r5187.1 p5189 c5190 (ho5192.rd M6008 3 (by kernel_rfl)) hr6023).mono ?_
    rintro e_ w6024 ⟨rfl, K6025⟩
    have M6026 := M6008.call0 K6025
    refine ⟨_, rfl, ?_⟩
    refine W_run 2 [(0, .slice p4487 x4485.length c4488), (1, .slice p4492 x4490.length c4493), (2, .int .i64 x4495), (8, .slice p5189 r5187.1.length c5190), (9, .slice p5194 r5187.2.1.length c5195), (10, .int .i64 r5187.2.2.1), (11, .bool r5187.2.2.2), (12, .slice p5204 r5202.length c5205), (13, .slice p5213 r5211.length c5214), (14, .slice p5996 r5994.1.length c5997), (15, .slice p6001 r5994.2.1.length c6002), (16, .int .i64 r5994.2.2.1), (17, .bool r5994.2.2.2), (61, .bool (!r6023))] w6024 (by kernel_rfl) ?_
    rcases gx_bif hm with ⟨hc6027, hm⟩ | ⟨hc6027, hm⟩
    · refine W_known 61 true (by kernel_rfl) hc6027 ?_
      refine W_run 15 [(0, .slice p4487 x4485.length c4488), (1, .slice p4492 x4490.length c4493), (2, .int .i64 x4495), (8, .slice p5189 r5187.1.length c5190), (9, .slice p5194 r5187.2.1.length c5195), (10, .int .i64 r5187.2.2.1), (11, .bool r5187.2.2.2), (12, .slice p5204 r5202.length c5205), (13, .slice p5213 r5211.length c5214), (14, .slice p5996 r5994.1.length c5997), (15, .slice p6001 r5994.2.1.length c6002), (16, .int .i64 r5994.2.2.1), (17, .bool r5994.2.2.2), (76, .bool true)] w6024 (by kernel_rfl) ?_
      refine W_nil ?_
      obtain rfl := Option.some.inj hm
      exact N_meet fun a ha => ⟨M6026.pick [3, 4, 5, 6, 7, 8, 9, 10, 11] (by kernel_rfl), ha.sub (by kernel_rfl)⟩
    refine W_known 61 false (by kernel_rfl) hc6027 ?_
    refine W_run 2 [(0, .slice p4487 x4485.length c4488), (1, .slice p4492 x4490.length c4493), (2, .int .i64 x4495), (8, .slice p5189 r5187.1.length c5190), (9, .slice p5194 r5187.2.1.length c5195), (10, .int .i64 r5187.2.2.1), (11, .bool r5187.2.2.2), (12, .slice p5204 r5202.length c5205), (13, .slice p5213 r5211.length c5214), (14, .slice p5996 r5994.1.length c5997), (15, .slice p6001 r5994.2.1.length c6002), (16, .int .i64 r5994.2.2.1), (17, .bool r5994.2.2.2), (61, .bool false), (62, .slice p6001 r5994.2.1.length c6002), (63, .slice p5194 r5187.2.1.length c5195)] w6024 (by kernel_rfl) ?_
    obtain ⟨r6028, hr6028, hm⟩ := gx_bind hm
    refine W_call 19 #[.slice p6001 r5994.2.1.length c6002, .slice p5194 r5187.2.1.length c5195] (by kernel_rfl) (by kernel_rfl) ?_
    refine (c_l_eqBalloonS w6024 r5994.2.1 p6001 c6002 (ho6005.rd M6026 10 (by kernel_rfl) 11 (by kernel_rfl)) r5187.2.1 p5194 c5195 (ho5198.rd M6026 4 (by kernel_rfl) 5 (by kernel_rfl)) hr6028).mono ?_
    rintro e_ w6029 ⟨rfl, K6030⟩
    have M6031 := M6026.call0 K6030
    refine ⟨_, rfl, ?_⟩
    refine W_run 3 [(0, .slice p4487 x4485.length c4488), (1, .slice p4492 x4490.length c4493), (2, .int .i64 x4495), (8, .slice p5189 r5187.1.length c5190), (9, .slice p5194 r5187.2.1.length c5195), (10, .int .i64 r5187.2.2.1), (11, .bool r5187.2.2.2), (12, .slice p5204 r5202.length c5205), (13, .slice p5213 r5211.length c5214), (14, .slice p5996 r5994.1.length c5997), (15, .slice p6001 r5994.2.1.length c6002), (16, .int .i64 r5994.2.2.1), (17, .bool r5994.2.2.2), (67, .bool (!r6028))] w6029 (by kernel_rfl) ?_
    rcases gx_bif hm with ⟨hc6032, hm⟩ | ⟨hc6032, hm⟩
    · refine W_known 67 true (by kernel_rfl) hc6032 ?_
      refine W_run 9 [(0, .slice p4487 x4485.length c4488), (1, .slice p4492 x4490.length c4493), (2, .int .i64 x4495), (8, .slice p5189 r5187.1.length c5190), (9, .slice p5194 r5187.2.1.length c5195), (10, .int .i64 r5187.2.2.1), (11, .bool r5187.2.2.2), (12, .slice p5204 r5202.length c5205), (13, .slice p5213 r5211.length c5214), (14, .slice p5996 r5994.1.length c5997), (15, .slice p6001 r5994.2.1.length c6002), (16, .int .i64 r5994.2.2.1), (17, .bool r5994.2.2.2), (76, .bool true)] w6029 (by kernel_rfl) ?_
      refine W_nil ?_
      obtain rfl := Option.some.inj hm
      exact N_meet fun a ha => ⟨M6031.pick [3, 4, 5, 6, 7, 8, 9, 10, 11] (by kernel_rfl), ha.sub (by kernel_rfl)⟩
    refine W_known 67 false (by kernel_rfl) hc6032 ?_
    refine W_run 5 [(0, .slice p4487 x4485.length c4488), (1, .slice p4492 x4490.length c4493), (2, .int .i64 x4495), (8, .slice p5189 r5187.1.length c5190), (9, .slice p5194 r5187.2.1.length c5195), (10, .int .i64 r5187.2.2.1), (11, .bool r5187.2.2.2), (12, .slice p5204 r5202.length c5205), (13, .slice p5213 r5211.length c5214), (14, .slice p5996 r5994.1.length c5997), (15, .slice p6001 r5994.2.1.length c6002), (16, .int .i64 r5994.2.2.1), (17, .bool r5994.2.2.2), (72, .bool (r5994.2.2.1 != r5187.2.2.1))] w6029 (by kernel_rfl) ?_
    rcases gx_bif hm with ⟨hc6033, hm⟩ | ⟨hc6033, hm⟩
    · refine W_known 72 true (by kernel_rfl) hc6033 ?_
      refine W_run 4 [(0, .slice p4487 x4485.length c4488), (1, .slice p4492 x4490.length c4493), (2, .int .i64 x4495), (8, .slice p5189 r5187.1.length c5190), (9, .slice p5194 r5187.2.1.length c5195), (10, .int .i64 r5187.2.2.1), (11, .bool r5187.2.2.2), (12, .slice p5204 r5202.length c5205), (13, .slice p5213 r5211.length c5214), (14, .slice p5996 r5994.1.length c5997), (15, .slice p6001 r5994.2.1.length c6002), (16, .int .i64 r5994.2.2.1), (17, .bool r5994.2.2.2), (76, .bool true)] w6029 (by kernel_rfl) ?_
      refine W_nil ?_
      obtain rfl := Option.some.inj hm
      exact N_meet fun a ha => ⟨M6031.pick [3, 4, 5, 6, 7, 8, 9, 10, 11] (by kernel_rfl), ha.sub (by kernel_rfl)⟩
    refine W_known 72 false (by kernel_rfl) hc6033 ?_
    refine W_run 4 [(0, .slice p4487 x4485.length c4488), (1, .slice p4492 x4490.length c4493), (2, .int .i64 x4495), (8, .slice p5189 r5187.1.length c5190), (9, .slice p5194 r5187.2.1.length c5195), (10, .int .i64 r5187.2.2.1), (11, .bool r5187.2.2.2), (12, .slice p5204 r5202.length c5205), (13, .slice p5213 r5211.length c5214), (14, .slice p5996 r5994.1.length c5997), (15, .slice p6001 r5994.2.1.length c6002), (16, .int .i64 r5994.2.2.1), (17, .bool r5994.2.2.2), (76, .bool (!(r5994.2.2.2 == r5187.2.2.2)))] w6029 (by kernel_rfl) ?_
    refine W_nil ?_
    obtain rfl := Option.some.inj hm
    exact N_meet fun a ha => ⟨M6031.pick [3, 4, 5, 6, 7, 8, 9, 10, 11] (by kernel_rfl), ha.sub (by kernel_rfl)⟩
  intro a6036 w6034 ⟨M6035, hS6037⟩
  refine N_use hS6037 ?_
  have hm := hm6022
  refine N_then ?_
  rcases gx_bif hm with ⟨hc6038, hm⟩ | ⟨hc6038, hm⟩
  · refine G_cond_t (b := o6020) hc6038 (by kernel_rfl) ?_
    refine G_seq ?_
    refine G_region ?_
    refine W_run 1 [(6, .bool false)] w6034 (by kernel_rfl) ?_
    refine W_nil ?_
    refine N_then ?_
    refine G_ret ?_
    refine N_then_ret ?_
    obtain rfl := Option.some.inj hm
    refine N_ret [.bool false] (RVs_cons (RV_tmp (by kernel_rfl)) RVs_nil) ?_
    exact ⟨rfl, M6035.pick [] (by kernel_rfl)⟩
  refine G_cond_f (b := o6020) hc6038 (by kernel_rfl) ?_
  refine G_skip ?_
  refine N_then ?_
  refine G_seq ?_
  refine G_seq ?_
  refine G_region ?_
  refine W_run 2 [(0, .slice p4487 x4485.length c4488), (1, .slice p4492 x4490.length c4493), (2, .int .i64 x4495), (8, .slice p5189 r5187.1.length c5190), (9, .slice p5194 r5187.2.1.length c5195), (10, .int .i64 r5187.2.2.1), (11, .bool r5187.2.2.2), (12, .slice p5204 r5202.length c5205), (13, .slice p5213 r5211.length c5214), (14, .slice p5996 r5994.1.length c5997), (15, .slice p6001 r5994.2.1.length c6002), (16, .int .i64 r5994.2.2.1), (17, .bool r5994.2.2.2), (77, .slice p5204 r5202.length c5205), (78, .slice p4487 x4485.length c4488)] w6034 (by kernel_rfl) ?_
  obtain ⟨r6039, hr6039, hm⟩ := gx_bind hm
  refine W_call 15 #[.slice p4487 x4485.length c4488] (by kernel_rfl) (by kernel_rfl) ?_
  refine (c_l_toIntS w6034 x4485 p4487 c4488 (h4489.mem0 M6035) hr6039).mono ?_
  rintro e_ w6045 ⟨p6041, c6042, sg6043, rfl, ho6044, K6046⟩
  have M6047 := M6035.call K6046
  refine ⟨_, rfl, ?_⟩
  obtain ⟨r6048, hr6048, hm⟩ := gx_bind hm
  refine W_call 18 #[.slice p5204 r5202.length c5205, .slice p6041 r6039.length c6042] (by kernel_rfl) (by kernel_rfl) ?_
  refine (c_l_eqIntS w6045 r5202 p5204 c5205 (ho5207.rd M6047 3 (by kernel_rfl)) r6039 p6041 c6042 (ho6044.rd M6047 9 (by kernel_rfl)) hr6048).mono ?_
  rintro e_ w6049 ⟨rfl, K6050⟩
  have M6051 := M6047.call0 K6050
  refine ⟨_, rfl, ?_⟩
  refine W_run 1 [(0, .slice p4487 x4485.length c4488), (1, .slice p4492 x4490.length c4493), (2, .int .i64 x4495), (8, .slice p5189 r5187.1.length c5190), (9, .slice p5194 r5187.2.1.length c5195), (10, .int .i64 r5187.2.2.1), (11, .bool r5187.2.2.2), (12, .slice p5204 r5202.length c5205), (13, .slice p5213 r5211.length c5214), (14, .slice p5996 r5994.1.length c5997), (15, .slice p6001 r5994.2.1.length c6002), (16, .int .i64 r5994.2.2.1), (17, .bool r5994.2.2.2), (81, .bool (!r6048))] w6049 (by kernel_rfl) ?_
  refine W_nil ?_
  refine N_then ?_
  rcases gx_bif hm with ⟨hc6052, hm⟩ | ⟨hc6052, hm⟩
  · refine G_cond_t (b := (!r6048)) hc6052 (by kernel_rfl) ?_
    refine G_seq ?_
    refine G_region ?_
    refine W_run 1 [(6, .bool false)] w6049 (by kernel_rfl) ?_
    refine W_nil ?_
    refine N_then ?_
    refine G_ret ?_
    refine N_then_ret ?_
    obtain rfl := Option.some.inj hm
    refine N_ret [.bool false] (RVs_cons (RV_tmp (by kernel_rfl)) RVs_nil) ?_
    exact ⟨rfl, M6051.pick [] (by kernel_rfl)⟩
  refine G_cond_f (b := (!r6048)) hc6052 (by kernel_rfl) ?_
  refine G_skip ?_
  refine N_then ?_
  refine G_seq ?_
  refine G_seq ?_
  refine G_region ?_
  refine W_run 2 [(0, .slice p4487 x4485.length c4488), (1, .slice p4492 x4490.length c4493), (2, .int .i64 x4495), (8, .slice p5189 r5187.1.length c5190), (9, .slice p5194 r5187.2.1.length c5195), (10, .int .i64 r5187.2.2.1), (11, .bool r5187.2.2.2), (12, .slice p5204 r5202.length c5205), (13, .slice p5213 r5211.length c5214), (14, .slice p5996 r5994.1.length c5997), (15, .slice p6001 r5994.2.1.length c6002), (16, .int .i64 r5994.2.2.1), (17, .bool r5994.2.2.2), (82, .slice p5213 r5211.length c5214), (83, .slice p4492 x4490.length c4493)] w6049 (by kernel_rfl) ?_
  obtain ⟨r6053, hr6053, hm⟩ := gx_bind hm
  refine W_call 16 #[.slice p4492 x4490.length c4493] (by kernel_rfl) (by kernel_rfl) ?_
  refine (c_l_toBalloonS w6049 x4490 p4492 c4493 (h4494.mem0 M6051) hr6053).mono ?_
  rintro e_ w6060 ⟨p6055, c6056, sg6057, sg6058, rfl, ho6059, K6061⟩
  have M6062 := M6051.call K6061
  refine ⟨_, rfl, ?_⟩
  obtain ⟨r6063, hr6063, hm⟩ := gx_bind hm
  refine W_call 19 #[.slice p5213 r5211.length c5214, .slice p6055 r6053.length c6056] (by kernel_rfl) (by kernel_rfl) ?_
  refine (c_l_eqBalloonS w6060 r5211 p5213 c5214 (ho5217.rd M6062 4 (by kernel_rfl) 5 (by kernel_rfl)) r6053 p6055 c6056 (ho6059.rd M6062 10 (by kernel_rfl) 11 (by kernel_rfl)) hr6063).mono ?_
  rintro e_ w6064 ⟨rfl, K6065⟩
  have M6066 := M6062.call0 K6065
  refine ⟨_, rfl, ?_⟩
  refine W_run 1 [(0, .slice p4487 x4485.length c4488), (1, .slice p4492 x4490.length c4493), (2, .int .i64 x4495), (8, .slice p5189 r5187.1.length c5190), (9, .slice p5194 r5187.2.1.length c5195), (10, .int .i64 r5187.2.2.1), (11, .bool r5187.2.2.2), (12, .slice p5204 r5202.length c5205), (13, .slice p5213 r5211.length c5214), (14, .slice p5996 r5994.1.length c5997), (15, .slice p6001 r5994.2.1.length c6002), (16, .int .i64 r5994.2.2.1), (17, .bool r5994.2.2.2), (86, .bool (!r6063))] w6064 (by kernel_rfl) ?_
  refine W_nil ?_
  refine N_then ?_
  rcases gx_bif hm with ⟨hc6067, hm⟩ | ⟨hc6067, hm⟩
  · refine G_cond_t (b := (!r6063)) hc6067 (by kernel_rfl) ?_
    refine G_seq ?_
    refine G_region ?_
    refine W_run 1 [(6, .bool false)] w6064 (by kernel_rfl) ?_
    refine W_nil ?_
    refine N_then ?_
    refine G_ret ?_
    refine N_then_ret ?_
    obtain rfl := Option.some.inj hm
    refine N_ret [.bool false] (RVs_cons (RV_tmp (by kernel_rfl)) RVs_nil) ?_
    exact ⟨rfl, M6066.pick [] (by kernel_rfl)⟩
  refine G_cond_f (b := (!r6063)) hc6067 (by kernel_rfl) ?_
  refine G_skip ?_
  refine N_then ?_
  refine G_seq ?_
  refine G_region ?_
  refine W_run 1 [(0, .slice p4487 x4485.length c4488), (1, .slice p4492 x4490.length c4493), (2, .int .i64 x4495), (8, .slice p5189 r5187.1.length c5190), (9, .slice p5194 r5187.2.1.length c5195), (10, .int .i64 r5187.2.2.1), (11, .bool r5187.2.2.2), (12, .slice p5204 r5202.length c5205), (13, .slice p5213 r5211.length c5214), (14, .slice p5996 r5994.1.length c5997), (15, .slice p6001 r5994.2.1.length c6002), (16, .int .i64 r5994.2.2.1), (17, .bool r5994.2.2.2), (18, .int .i64 1)] w6064 (by kernel_rfl) ?_
  refine W_nil ?_
  refine N_then ?_
  refine G_seq ?_
  refine G_region ?_
  refine W_run 2 [(0, .slice p4487 x4485.length c4488), (1, .slice p4492 x4490.length c4493), (2, .int .i64 x4495), (8, .slice p5189 r5187.1.length c5190), (9, .slice p5194 r5187.2.1.length c5195), (10, .int .i64 r5187.2.2.1), (11, .bool r5187.2.2.2), (13, .slice p5213 r5211.length c5214), (14, .slice p5996 r5994.1.length c5997), (15, .slice p6001 r5994.2.1.length c6002), (16, .int .i64 r5994.2.2.1), (17, .bool r5994.2.2.2), (18, .int .i64 1), (87, .slice p5204 r5202.length c5205), (88, .int .i64 1)] w6064 (by kernel_rfl) ?_
  obtain ⟨r6068, hr6068, hm⟩ := gx_bind hm
  refine W_call 24 #[.slice p5204 r5202.length c5205, .int .i64 1] (by kernel_rfl) (by kernel_rfl) ?_
  refine (c_l_markIntS w6064 r5202 p5204 c5205 sg5206 ho5207 1 (M6066.hasPick [3]) (M6066.nodupPick [3] (by kernel_rfl)) hr6068).mono ?_
  rintro e_ w6072 ⟨sg6069, rfl, ho6070, hl6071, K6073⟩
  have M6074 := M6066.callF' [3] [0, 1, 2, 4, 5, 6, 7, 8, 9, 10, 11] (by kernel_rfl) K6073
  refine ⟨_, rfl, ?_⟩
  refine W_conv 87 (.slice p5204 r5202.length c5205) (.slice p5204 r6068.2.length c5205) (by kernel_rfl) (by first | rw [hl6071] | rw [hl6071]) ?_
  refine W_run 1 [(0, .slice p4487 x4485.length c4488), (1, .slice p4492 x4490.length c4493), (2, .int .i64 x4495), (8, .slice p5189 r5187.1.length c5190), (9, .slice p5194 r5187.2.1.length c5195), (10, .int .i64 r5187.2.2.1), (11, .bool r5187.2.2.2), (13, .slice p5213 r5211.length c5214), (14, .slice p5996 r5994.1.length c5997), (15, .slice p6001 r5994.2.1.length c6002), (16, .int .i64 r5994.2.2.1), (17, .bool r5994.2.2.2), (18, .int .i64 r6068.1)] w6072 (by kernel_rfl) ?_
  refine W_nil ?_
  refine N_then ?_
  refine G_seq ?_
  refine G_region ?_
  refine W_run 2 [(0, .slice p4487 x4485.length c4488), (1, .slice p4492 x4490.length c4493), (2, .int .i64 x4495), (8, .slice p5189 r5187.1.length c5190), (9, .slice p5194 r5187.2.1.length c5195), (10, .int .i64 r5187.2.2.1), (11, .bool r5187.2.2.2), (14, .slice p5996 r5994.1.length c5997), (15, .slice p6001 r5994.2.1.length c6002), (16, .int .i64 r5994.2.2.1), (17, .bool r5994.2.2.2), (18, .int .i64 r6068.1), (90, .slice p5213 r5211.length c5214), (91, .int .i64 r6068.1)] w6072 (by kernel_rfl) ?_
  obtain ⟨r6075, hr6075, hm⟩ := gx_bind hm
  refine W_call 25 #[.slice p5213 r5211.length c5214, .int .i64 r6068.1] (by kernel_rfl) (by kernel_rfl) ?_
  refine (c_l_markBalloonS w6072 r5211 p5213 c5214 sg5215 sg5216 ho5217 r6068.1 (M6074.hasPick [3, 4]) (M6074.nodupPick [3, 4] (by kernel_rfl)) hr6075).mono ?_
  rintro e_ w6080 ⟨sg6076, sg6077, rfl, ho6078, hl6079, K6081⟩
  have M6082 := M6074.callF' [3, 4] [0, 1, 2, 5, 6, 7, 8, 9, 10, 11] (by kernel_rfl) K6081
  refine ⟨_, rfl, ?_⟩
  refine W_conv 90 (.slice p5213 r5211.length c5214) (.slice p5213 r6075.2.length c5214) (by kernel_rfl) (by first | rw [hl6079] | rw [hl6079]) ?_
  refine W_run 1 [(0, .slice p4487 x4485.length c4488), (1, .slice p4492 x4490.length c4493), (2, .int .i64 x4495), (8, .slice p5189 r5187.1.length c5190), (9, .slice p5194 r5187.2.1.length c5195), (10, .int .i64 r5187.2.2.1), (11, .bool r5187.2.2.2), (14, .slice p5996 r5994.1.length c5997), (15, .slice p6001 r5994.2.1.length c6002), (16, .int .i64 r5994.2.2.1), (17, .bool r5994.2.2.2), (18, .int .i64 r6075.1)] w6080 (by kernel_rfl) ?_
  refine W_nil ?_
  refine N_then ?_
  refine G_seq ?_
  refine G_seq ?_
  obtain ⟨o6095, ho6096, hm6097⟩ := gx_bind hm
  refine G_meet (fun a w' => Mem [] w w' [sg5191, sg5196, sg5197, sg5998, sg6003, sg6004] ∧ Sat Try.f6.ntmps [(0, .slice p4487 x4485.length c4488), (1, .slice p4492 x4490.length c4493), (2, .int .i64 x4495), (8, .slice p5189 r5187.1.length c5190), (9, .slice p5194 r5187.2.1.length c5195), (10, .int .i64 r5187.2.2.1), (11, .bool r5187.2.2.2), (14, .slice p5996 r5994.1.length c5997), (15, .slice p6001 r5994.2.1.length c6002), (116, .bool o6095)] a) ?_ ?_
  · have hm := ho6096
    refine G_region ?_
    refine W_run 3 [(0, .slice p4487 x4485.length c4488), (1, .slice p4492 x4490.length c4493), (2, .int .i64 x4495), (8, .slice p5189 r5187.1.length c5190), (9, .slice p5194 r5187.2.1.length c5195), (10, .int .i64 r5187.2.2.1), (11, .bool r5187.2.2.2), (14, .slice p5996 r5994.1.length c5997), (15, .slice p6001 r5994.2.1.length c6002), (16, .int .i64 r5994.2.2.1), (17, .bool r5994.2.2.2), (95, .bool (decide (r6075.1 < 0)))] w6080 (by kernel_rfl) ?_
    rcases gx_bif hm with ⟨hc6098, hm⟩ | ⟨hc6098, hm⟩
    · refine W_known 95 true (by kernel_rfl) hc6098 ?_
      refine W_run 21 [(0, .slice p4487 x4485.length c4488), (1, .slice p4492 x4490.length c4493), (2, .int .i64 x4495), (8, .slice p5189 r5187.1.length c5190), (9, .slice p5194 r5187.2.1.length c5195), (10, .int .i64 r5187.2.2.1), (11, .bool r5187.2.2.2), (14, .slice p5996 r5994.1.length c5997), (15, .slice p6001 r5994.2.1.length c6002), (116, .bool true)] w6080 (by kernel_rfl) ?_
      refine W_nil ?_
      obtain rfl := Option.some.inj hm
      exact N_meet fun a ha => ⟨M6082.pick [0, 1, 2, 3, 4, 5] (by kernel_rfl), ha.sub (by kernel_rfl)⟩
    refine W_known 95 false (by kernel_rfl) hc6098 ?_
    refine W_run 2 [(0, .slice p4487 x4485.length c4488), (1, .slice p4492 x4490.length c4493), (2, .int .i64 x4495), (8, .slice p5189 r5187.1.length c5190), (9, .slice p5194 r5187.2.1.length c5195), (10, .int .i64 r5187.2.2.1), (11, .bool r5187.2.2.2), (14, .slice p5996 r5994.1.length c5997), (15, .slice p6001 r5994.2.1.length c6002), (16, .int .i64 r5994.2.2.1), (17, .bool r5994.2.2.2), (95, .bool false), (96, .slice p5996 r5994.1.length c5997), (97, .slice p5189 r5187.1.length c5190)] w6080 (by kernel_rfl) ?_
    obtain ⟨r6099, hr6099, hm⟩ := gx_bind hm
    refine W_call 18 #[.slice p5996 r5994.1.length c5997, .slice p5189 r5187.1.length c5190] (by kernel_rfl) (by kernel_rfl) ?_
    refine (c_l_eqIntS w6080 r5994.1 p5996 c5997 (ho5999.rd M6082 3 (by kernel_rfl)) r5187.1 p5189 c5190 (ho5192.rd M6082 0 (by kernel_rfl)) hr6099).mono ?_
    rintro e_ w6100 ⟨rfl, K6101⟩
    have M6102 := M6082.call0 K6101
    refine ⟨_, rfl, ?_⟩
    refine W_run 3 [(0, .slice p4487 x4485.length c4488), (1, .slice p4492 x4490.length c4493), (2, .int .i64 x4495), (8, .slice p5189 r5187.1.length c5190), (9, .slice p5194 r5187.2.1.length c5195), (10, .int .i64 r5187.2.2.1), (11, .bool r5187.2.2.2), (14, .slice p5996 r5994.1.length c5997), (15, .slice p6001 r5994.2.1.length c6002), (16, .int .i64 r5994.2.2.1), (17, .bool r5994.2.2.2), (101, .bool (!r6099))] w6100 (by kernel_rfl) ?_
    rcases gx_bif hm with ⟨hc6103, hm⟩ | ⟨hc6103, hm⟩
    · refine W_known 101 true (by kernel_rfl) hc6103 ?_
      refine W_run 15 [(0, .slice p4487 x4485.length c4488), (1, .slice p4492 x4490.length c4493), (2, .int .i64 x4495), (8, .slice p5189 r5187.1.length c5190), (9, .slice p5194 r5187.2.1.length c5195), (10, .int .i64 r5187.2.2.1), (11, .bool r5187.2.2.2), (14, .slice p5996 r5994.1.length c5997), (15, .slice p6001 r5994.2.1.length c6002), (116, .bool true)] w6100 (by kernel_rfl) ?_
      refine W_nil ?_
      obtain rfl := Option.some.inj hm
      exact N_meet fun a ha => ⟨M6102.pick [0, 1, 2, 3, 4, 5] (by kernel_rfl), ha.sub (by kernel_rfl)⟩
    refine W_known 101 false (by kernel_rfl) hc6103 ?_
    refine W_run 2 [(0, .slice p4487 x4485.length c4488), (1, .slice p4492 x4490.length c4493), (2, .int .i64 x4495), (8, .slice p5189 r5187.1.length c5190), (9, .slice p5194 r5187.2.1.length c5195), (10, .int .i64 r5187.2.2.1), (11, .bool r5187.2.2.2), (14, .slice p5996 r5994.1.length c5997), (15, .slice p6001 r5994.2.1.length c6002), (16, .int .i64 r5994.2.2.1), (17, .bool r5994.2.2.2), (101, .bool false), (102, .slice p6001 r5994.2.1.length c6002), (103, .slice p5194 r5187.2.1.length c5195)] w6100 (by kernel_rfl) ?_
    obtain ⟨r6104, hr6104, hm⟩ := gx_bind hm
    refine W_call 19 #[.slice p6001 r5994.2.1.length c6002, .slice p5194 r5187.2.1.length c5195] (by kernel_rfl) (by kernel_rfl) ?_
    refine (c_l_eqBalloonS w6100 r5994.2.1 p6001 c6002 (ho6005.rd M6102 4 (by kernel_rfl) 5 (by kernel_rfl)) r5187.2.1 p5194 c5195 (ho5198.rd M6102 1 (by kernel_rfl) 2 (by kernel_rfl)) hr6104).mono ?_
    rintro e_ w6105 ⟨rfl, K6106⟩
    have M6107 := M6102.call0 K6106
    refine ⟨_, rfl, ?_⟩
    refine W_run 3 [(0, .slice p4487 x4485.length c4488), (1, .slice p4492 x4490.length c4493), (2, .int .i64 x4495), (8, .slice p5189 r5187.1.length c5190), (9, .slice p5194 r5187.2.1.length c5195), (10, .int .i64 r5187.2.2.1), (11, .bool r5187.2.2.2), (14, .slice p5996 r5994.1.length c5997), (15, .slice p6001 r5994.2.1.length c6002), (16, .int .i64 r5994.2.2.1), (17, .bool r5994.2.2.2), (107, .bool (!r6104))] w6105 (by kernel_rfl) ?_
    rcases gx_bif hm with ⟨hc6108, hm⟩ | ⟨hc6108, hm⟩
    · refine W_known 107 true (by kernel_rfl) hc6108 ?_
      refine W_run 9 [(0, .slice p4487 x4485.length c4488), (1, .slice p4492 x4490.length c4493), (2, .int .i64 x4495), (8, .slice p5189 r5187.1.length c5190), (9, .slice p5194 r5187.2.1.length c5195), (10, .int .i64 r5187.2.2.1), (11, .bool r5187.2.2.2), (14, .slice p5996 r5994.1.length c5997), (15, .slice p6001 r5994.2.1.length c6002), (116, .bool true)] w6105 (by kernel_rfl) ?_
      refine W_nil ?_
      obtain rfl := Option.some.inj hm
      exact N_meet fun a ha => ⟨M6107.pick [0, 1, 2, 3, 4, 5] (by kernel_rfl), ha.sub (by kernel_rfl)⟩
    refine W_known 107 false (by kernel_rfl) hc6108 ?_
    refine W_run 5 [(0, .slice p4487 x4485.length c4488), (1, .slice p4492 x4490.length c4493), (2, .int .i64 x4495), (8, .slice p5189 r5187.1.length c5190), (9, .slice p5194 r5187.2.1.length c5195), (10, .int .i64 r5187.2.2.1), (11, .bool r5187.2.2.2), (14, .slice p5996 r5994.1.length c5997), (15, .slice p6001 r5994.2.1.length c6002), (17, .bool r5994.2.2.2), (112, .bool (r5994.2.2.1 != r5187.2.2.1))] w6105 (by kernel_rfl) ?_
    rcases gx_bif hm with ⟨hc6109, hm⟩ | ⟨hc6109, hm⟩
    · refine W_known 112 true (by kernel_rfl) hc6109 ?_
      refine W_run 4 [(0, .slice p4487 x4485.length c4488), (1, .slice p4492 x4490.length c4493), (2, .int .i64 x4495), (8, .slice p5189 r5187.1.length c5190), (9, .slice p5194 r5187.2.1.length c5195), (10, .int .i64 r5187.2.2.1), (11, .bool r5187.2.2.2), (14, .slice p5996 r5994.1.length c5997), (15, .slice p6001 r5994.2.1.length c6002), (116, .bool true)] w6105 (by kernel_rfl) ?_
      refine W_nil ?_
      obtain rfl := Option.some.inj hm
      exact N_meet fun a ha => ⟨M6107.pick [0, 1, 2, 3, 4, 5] (by kernel_rfl), ha.sub (by kernel_rfl)⟩
    refine W_known 112 false (by kernel_rfl) hc6109 ?_
    refine W_run 4 [(0, .slice p4487 x4485.length c4488), (1, .slice p4492 x4490.length c4493), (2, .int .i64 x4495), (8, .slice p5189 r5187.1.length c5190), (9, .slice p5194 r5187.2.1.length c5195), (10, .int .i64 r5187.2.2.1), (11, .bool r5187.2.2.2), (14, .slice p5996 r5994.1.length c5997), (15, .slice p6001 r5994.2.1.length c6002), (116, .bool (!(r5994.2.2.2 == r5187.2.2.2)))] w6105 (by kernel_rfl) ?_
    refine W_nil ?_
    obtain rfl := Option.some.inj hm
    exact N_meet fun a ha => ⟨M6107.pick [0, 1, 2, 3, 4, 5] (by kernel_rfl), ha.sub (by kernel_rfl)⟩
  intro a6112 w6110 ⟨M6111, hS6113⟩
  refine N_use hS6113 ?_
  have hm := hm6097
  refine N_then ?_
  rcases gx_bif hm with ⟨hc6114, hm⟩ | ⟨hc6114, hm⟩
  · refine G_cond_t (b := o6095) hc6114 (by kernel_rfl) ?_
    refine G_seq ?_
    refine G_region ?_
    refine W_run 1 [(6, .bool false)] w6110 (by kernel_rfl) ?_
    refine W_nil ?_
    refine N_then ?_
    refine G_ret ?_
    refine N_then_ret ?_
    obtain rfl := Option.some.inj hm
    refine N_ret [.bool false] (RVs_cons (RV_tmp (by kernel_rfl)) RVs_nil) ?_
    exact ⟨rfl, M6111.pick [] (by kernel_rfl)⟩
  refine G_cond_f (b := o6095) hc6114 (by kernel_rfl) ?_
  refine G_skip ?_
  refine N_then ?_
  refine G_seq ?_
  refine G_region ?_
  refine W_run 1 [(0, .slice p4487 x4485.length c4488), (1, .slice p4492 x4490.length c4493), (2, .int .i64 x4495), (8, .slice p5189 r5187.1.length c5190), (9, .slice p5194 r5187.2.1.length c5195), (10, .int .i64 r5187.2.2.1), (11, .bool r5187.2.2.2), (14, .slice p5996 r5994.1.length c5997), (15, .slice p6001 r5994.2.1.length c6002), (19, .int .i64 1)] w6110 (by kernel_rfl) ?_
  refine W_nil ?_
  refine N_then ?_
  refine G_seq ?_
  refine G_region ?_
  refine W_run 2 [(0, .slice p4487 x4485.length c4488), (1, .slice p4492 x4490.length c4493), (2, .int .i64 x4495), (8, .slice p5189 r5187.1.length c5190), (9, .slice p5194 r5187.2.1.length c5195), (10, .int .i64 r5187.2.2.1), (11, .bool r5187.2.2.2), (14, .slice p5996 r5994.1.length c5997), (15, .slice p6001 r5994.2.1.length c6002), (19, .int .i64 1), (117, .slice p5996 r5994.1.length c5997), (118, .int .i64 1)] w6110 (by kernel_rfl) ?_
  obtain ⟨r6115, hr6115, hm⟩ := gx_bind hm
  refine W_call 24 #[.slice p5996 r5994.1.length c5997, .int .i64 1] (by kernel_rfl) (by kernel_rfl) ?_
  refine (c_l_markIntS w6110 r5994.1 p5996 c5997 sg5998 ho5999 1 (M6111.hasPick [3]) (M6111.nodupPick [3] (by kernel_rfl)) hr6115).mono ?_
  rintro e_ w6119 ⟨sg6116, rfl, ho6117, hl6118, K6120⟩
  have M6121 := M6111.callF' [3] [0, 1, 2, 4, 5] (by kernel_rfl) K6120
  refine ⟨_, rfl, ?_⟩
  refine W_conv 14 (.slice p5996 r5994.1.length c5997) (.slice p5996 r6115.2.length c5997) (by kernel_rfl) (by first | rw [hl6118] | rw [hl6118]) ?_
  refine W_conv 117 (.slice p5996 r5994.1.length c5997) (.slice p5996 r6115.2.length c5997) (by kernel_rfl) (by first | rw [hl6118] | rw [hl6118]) ?_
  refine W_run 1 [(0, .slice p4487 x4485.length c4488), (1, .slice p4492 x4490.length c4493), (2, .int .i64 x4495), (8, .slice p5189 r5187.1.length c5190), (9, .slice p5194 r5187.2.1.length c5195), (10, .int .i64 r5187.2.2.1), (11, .bool r5187.2.2.2), (14, .slice p5996 r6115.2.length c5997), (15, .slice p6001 r5994.2.1.length c6002), (19, .int .i64 r6115.1)] w6119 (by kernel_rfl) ?_
  refine W_nil ?_
  refine N_then ?_
  refine G_seq ?_
  refine G_region ?_
  refine W_run 2 [(0, .slice p4487 x4485.length c4488), (1, .slice p4492 x4490.length c4493), (2, .int .i64 x4495), (8, .slice p5189 r5187.1.length c5190), (9, .slice p5194 r5187.2.1.length c5195), (10, .int .i64 r5187.2.2.1), (11, .bool r5187.2.2.2), (14, .slice p5996 r6115.2.length c5997), (15, .slice p6001 r5994.2.1.length c6002), (19, .int .i64 r6115.1), (120, .slice p6001 r5994.2.1.length c6002), (121, .int .i64 r6115.1)] w6119 (by kernel_rfl) ?_
  obtain ⟨r6122, hr6122, hm⟩ := gx_bind hm
  refine W_call 25 #[.slice p6001 r5994.2.1.length c6002, .int .i64 r6115.1] (by kernel_rfl) (by kernel_rfl) ?_
  refine (c_l_markBalloonS w6119 r5994.2.1 p6001 c6002 sg6003 sg6004 ho6005 r6115.1 (M6121.hasPick [3, 4]) (M6121.nodupPick [3, 4] (by kernel_rfl)) hr6122).mono ?_
  rintro e_ w6127 ⟨sg6123, sg6124, rfl, ho6125, hl6126, K6128⟩
  have M6129 := M6121.callF' [3, 4] [0, 1, 2, 5] (by kernel_rfl) K6128
  refine ⟨_, rfl, ?_⟩
  refine W_conv 15 (.slice p6001 r5994.2.1.length c6002) (.slice p6001 r6122.2.length c6002) (by kernel_rfl) (by first | rw [hl6126] | rw [hl6126]) ?_
  refine W_conv 120 (.slice p6001 r5994.2.1.length c6002) (.slice p6001 r6122.2.length c6002) (by kernel_rfl) (by first | rw [hl6126] | rw [hl6126]) ?_
  refine W_run 1 [(0, .slice p4487 x4485.length c4488), (1, .slice p4492 x4490.length c4493), (2, .int .i64 x4495), (8, .slice p5189 r5187.1.length c5190), (9, .slice p5194 r5187.2.1.length c5195), (10, .int .i64 r5187.2.2.1), (11, .bool r5187.2.2.2), (14, .slice p5996 r6115.2.length c5997), (15, .slice p6001 r6122.2.length c6002), (19, .int .i64 r6122.1)] w6127 (by kernel_rfl) ?_
  refine W_nil ?_
  refine N_then ?_
  refine G_seq ?_
  refine G_region ?_
  refine W_run 1 [(0, .slice p4487 x4485.length c4488), (1, .slice p4492 x4490.length c4493), (2, .int .i64 x4495), (8, .slice p5189 r5187.1.length c5190), (9, .slice p5194 r5187.2.1.length c5195), (10, .int .i64 r5187.2.2.1), (11, .bool r5187.2.2.2), (14, .slice p5996 r6115.2.length c5997), (15, .slice p6001 r6122.2.length c6002), (19, .int .i64 r6122.1), (20, .int .i64 1)] w6127 (by kernel_rfl) ?_
  refine W_nil ?_
  refine N_then ?_
  refine G_seq ?_
  refine G_region ?_
  refine W_run 2 [(0, .slice p4487 x4485.length c4488), (1, .slice p4492 x4490.length c4493), (2, .int .i64 x4495), (8, .slice p5189 r5187.1.length c5190), (9, .slice p5194 r5187.2.1.length c5195), (10, .int .i64 r5187.2.2.1), (11, .bool r5187.2.2.2), (14, .slice p5996 r6115.2.length c5997), (15, .slice p6001 r6122.2.length c6002), (19, .int .i64 r6122.1), (20, .int .i64 1), (123, .slice p5996 r6115.2.length c5997), (124, .int .i64 1)] w6127 (by kernel_rfl) ?_
  obtain ⟨r6130, hr6130, hm⟩ := gx_bind hm
  refine W_call 29 #[.slice p5996 r6115.2.length c5997, .int .i64 1] (by kernel_rfl) (by kernel_rfl) ?_
  refine (c_l_heldIntS w6127 r6115.2 p5996 c5997 (ho6117.rd M6129 3 (by kernel_rfl)) 1 hr6130).mono ?_
  rintro e_ w6131 ⟨rfl, K6132⟩
  have M6133 := M6129.call0 K6132
  refine ⟨_, rfl, ?_⟩
  refine W_run 1 [(0, .slice p4487 x4485.length c4488), (1, .slice p4492 x4490.length c4493), (2, .int .i64 x4495), (8, .slice p5189 r5187.1.length c5190), (9, .slice p5194 r5187.2.1.length c5195), (10, .int .i64 r5187.2.2.1), (11, .bool r5187.2.2.2), (14, .slice p5996 r6115.2.length c5997), (15, .slice p6001 r6122.2.length c6002), (19, .int .i64 r6122.1), (20, .int .i64 r6130)] w6131 (by kernel_rfl) ?_
  refine W_nil ?_
  refine N_then ?_
  refine G_seq ?_
  refine G_seq ?_
  refine G_region ?_
  refine W_run 2 [(0, .slice p4487 x4485.length c4488), (1, .slice p4492 x4490.length c4493), (2, .int .i64 x4495), (8, .slice p5189 r5187.1.length c5190), (9, .slice p5194 r5187.2.1.length c5195), (10, .int .i64 r5187.2.2.1), (11, .bool r5187.2.2.2), (14, .slice p5996 r6115.2.length c5997), (15, .slice p6001 r6122.2.length c6002), (19, .int .i64 r6122.1), (20, .int .i64 r6130), (127, .bool (decide (r6130 < 0)))] w6131 (by kernel_rfl) ?_
  refine W_nil ?_
  refine N_then ?_
  rcases gx_bif hm with ⟨hc6134, hm⟩ | ⟨hc6134, hm⟩
  · refine G_cond_t (b := (decide (r6130 < 0))) hc6134 (by kernel_rfl) ?_
    refine G_seq ?_
    refine G_region ?_
    refine W_run 1 [(6, .bool false)] w6131 (by kernel_rfl) ?_
    refine W_nil ?_
    refine N_then ?_
    refine G_ret ?_
    refine N_then_ret ?_
    obtain rfl := Option.some.inj hm
    refine N_ret [.bool false] (RVs_cons (RV_tmp (by kernel_rfl)) RVs_nil) ?_
    exact ⟨rfl, M6133.pick [] (by kernel_rfl)⟩
  refine G_cond_f (b := (decide (r6130 < 0))) hc6134 (by kernel_rfl) ?_
  refine G_skip ?_
  refine N_then ?_
  refine G_seq ?_
  refine G_region ?_
  refine W_run 2 [(0, .slice p4487 x4485.length c4488), (1, .slice p4492 x4490.length c4493), (2, .int .i64 x4495), (8, .slice p5189 r5187.1.length c5190), (9, .slice p5194 r5187.2.1.length c5195), (10, .int .i64 r5187.2.2.1), (11, .bool r5187.2.2.2), (14, .slice p5996 r6115.2.length c5997), (15, .slice p6001 r6122.2.length c6002), (19, .int .i64 r6122.1), (20, .int .i64 r6130), (128, .slice p6001 r6122.2.length c6002), (129, .int .i64 r6130)] w6131 (by kernel_rfl) ?_
  obtain ⟨r6135, hr6135, hm⟩ := gx_bind hm
  refine W_call 26 #[.slice p6001 r6122.2.length c6002, .int .i64 r6130] (by kernel_rfl) (by kernel_rfl) ?_
  refine (c_l_heldBalloonS w6131 r6122.2 p6001 c6002 (ho6125.rd M6133 4 (by kernel_rfl) 5 (by kernel_rfl)) r6130 hr6135).mono ?_
  rintro e_ w6136 ⟨rfl, K6137⟩
  have M6138 := M6133.call0 K6137
  refine ⟨_, rfl, ?_⟩
  refine W_run 1 [(0, .slice p4487 x4485.length c4488), (1, .slice p4492 x4490.length c4493), (2, .int .i64 x4495), (8, .slice p5189 r5187.1.length c5190), (9, .slice p5194 r5187.2.1.length c5195), (10, .int .i64 r5187.2.2.1), (11, .bool r5187.2.2.2), (14, .slice p5996 r6115.2.length c5997), (15, .slice p6001 r6122.2.length c6002), (19, .int .i64 r6122.1), (20, .int .i64 r6135)] w6136 (by kernel_rfl) ?_
  refine W_nil ?_
  refine N_then ?_
  refine G_seq ?_
  refine G_seq ?_
  refine G_region ?_
  refine W_run 2 [(0, .slice p4487 x4485.length c4488), (1, .slice p4492 x4490.length c4493), (2, .int .i64 x4495), (8, .slice p5189 r5187.1.length c5190), (9, .slice p5194 r5187.2.1.length c5195), (10, .int .i64 r5187.2.2.1), (11, .bool r5187.2.2.2), (14, .slice p5996 r6115.2.length c5997), (15, .slice p6001 r6122.2.length c6002), (19, .int .i64 r6122.1), (20, .int .i64 r6135), (132, .bool (decide (r6135 < 0)))] w6136 (by kernel_rfl) ?_
  refine W_nil ?_
  refine N_then ?_
  rcases gx_bif hm with ⟨hc6139, hm⟩ | ⟨hc6139, hm⟩
  · refine G_cond_t (b := (decide (r6135 < 0))) hc6139 (by kernel_rfl) ?_
    refine G_seq ?_
    refine G_region ?_
    refine W_run 1 [(6, .bool false)] w6136 (by kernel_rfl) ?_
    refine W_nil ?_
    refine N_then ?_
    refine G_ret ?_
    refine N_then_ret ?_
    obtain rfl := Option.some.inj hm
    refine N_ret [.bool false] (RVs_cons (RV_tmp (by kernel_rfl)) RVs_nil) ?_
    exact ⟨rfl, M6138.pick [] (by kernel_rfl)⟩
  refine G_cond_f (b := (decide (r6135 < 0))) hc6139 (by kernel_rfl) ?_
  refine G_skip ?_
  refine N_then ?_
  refine G_seq ?_
  refine G_seq ?_
  refine G_region ?_
  refine W_run 3 [(0, .slice p4487 x4485.length c4488), (1, .slice p4492 x4490.length c4493), (2, .int .i64 x4495), (8, .slice p5189 r5187.1.length c5190), (9, .slice p5194 r5187.2.1.length c5195), (10, .int .i64 r5187.2.2.1), (11, .bool r5187.2.2.2), (14, .slice p5996 r6115.2.length c5997), (15, .slice p6001 r6122.2.length c6002), (19, .int .i64 r6122.1), (135, .bool (r6135 != r6122.1))] w6136 (by kernel_rfl) ?_
  refine W_nil ?_
  refine N_then ?_
  rcases gx_bif hm with ⟨hc6140, hm⟩ | ⟨hc6140, hm⟩
  · refine G_cond_t (b := (r6135 != r6122.1)) hc6140 (by kernel_rfl) ?_
    refine G_seq ?_
    refine G_region ?_
    refine W_run 1 [(6, .bool false)] w6136 (by kernel_rfl) ?_
    refine W_nil ?_
    refine N_then ?_
    refine G_ret ?_
    refine N_then_ret ?_
    obtain rfl := Option.some.inj hm
    refine N_ret [.bool false] (RVs_cons (RV_tmp (by kernel_rfl)) RVs_nil) ?_
    exact ⟨rfl, M6138.pick [] (by kernel_rfl)⟩
  refine G_cond_f (b := (r6135 != r6122.1)) hc6140 (by kernel_rfl) ?_
  refine G_skip ?_
  refine N_then ?_
  refine G_seq ?_
  refine G_region ?_
  refine W_run 1 [(1, .slice p4492 x4490.length c4493), (2, .int .i64 x4495), (8, .slice p5189 r5187.1.length c5190), (9, .slice p5194 r5187.2.1.length c5195), (10, .int .i64 r5187.2.2.1), (11, .bool r5187.2.2.2), (14, .slice p5996 r6115.2.length c5997), (15, .slice p6001 r6122.2.length c6002), (19, .int .i64 r6122.1), (137, .slice p4487 x4485.length c4488)] w6136 (by kernel_rfl) ?_
  obtain ⟨r6141, hr6141, hm⟩ := gx_bind hm
  refine W_call 15 #[.slice p4487 x4485.length c4488] (by kernel_rfl) (by kernel_rfl) ?_
  refine (c_l_toIntS w6136 x4485 p4487 c4488 (h4489.mem0 M6138) hr6141).mono ?_
  rintro e_ w6147 ⟨p6143, c6144, sg6145, rfl, ho6146, K6148⟩
  have M6149 := M6138.call K6148
  refine ⟨_, rfl, ?_⟩
  refine W_run 1 [(2, .int .i64 x4495), (8, .slice p5189 r5187.1.length c5190), (9, .slice p5194 r5187.2.1.length c5195), (10, .int .i64 r5187.2.2.1), (11, .bool r5187.2.2.2), (14, .slice p5996 r6115.2.length c5997), (15, .slice p6001 r6122.2.length c6002), (19, .int .i64 r6122.1), (138, .slice p6143 r6141.length c6144), (139, .slice p4492 x4490.length c4493)] w6147 (by kernel_rfl) ?_
  obtain ⟨r6150, hr6150, hm⟩ := gx_bind hm
  refine W_call 16 #[.slice p4492 x4490.length c4493] (by kernel_rfl) (by kernel_rfl) ?_
  refine (c_l_toBalloonS w6147 x4490 p4492 c4493 (h4494.mem0 M6149) hr6150).mono ?_
  rintro e_ w6157 ⟨p6152, c6153, sg6154, sg6155, rfl, ho6156, K6158⟩
  have M6159 := M6149.call K6158
  refine ⟨_, rfl, ?_⟩
  refine W_run 1 [(8, .slice p5189 r5187.1.length c5190), (9, .slice p5194 r5187.2.1.length c5195), (10, .int .i64 r5187.2.2.1), (11, .bool r5187.2.2.2), (14, .slice p5996 r6115.2.length c5997), (15, .slice p6001 r6122.2.length c6002), (19, .int .i64 r6122.1), (138, .slice p6143 r6141.length c6144), (140, .slice p6152 r6150.length c6153), (141, .int .i64 x4495)] w6157 (by kernel_rfl) ?_
  obtain ⟨r6160, hr6160, hm⟩ := gx_bind hm
  refine W_call 28 #[.slice p6143 r6141.length c6144, .slice p6152 r6150.length c6153, .int .i64 x4495] (by kernel_rfl) (by kernel_rfl) ?_
  refine (c_i_TakeGiven w6157 r6141 p6143 c6144 (ho6146.rd M6159 6 (by kernel_rfl)) r6150 p6152 c6153 (ho6156.rd M6159 7 (by kernel_rfl) 8 (by kernel_rfl)) x4495 hr6160).mono ?_
  rintro e_ w6172 ⟨p6162, c6163, sg6164, p6167, c6168, sg6169, sg6170, rfl, ho6165, ho6171, K6173⟩
  have M6174 := M6159.call K6173
  refine ⟨_, rfl, ?_⟩
  refine W_run 9 [(8, .slice p5189 r5187.1.length c5190), (9, .slice p5194 r5187.2.1.length c5195), (10, .int .i64 r5187.2.2.1), (11, .bool r5187.2.2.2), (14, .slice p5996 r6115.2.length c5997), (15, .slice p6001 r6122.2.length c6002), (19, .int .i64 r6122.1), (21, .slice p6162 r6160.1.length c6163), (22, .slice p6167 r6160.2.1.length c6168), (23, .int .i64 r6160.2.2.1), (24, .bool r6160.2.2.2)] w6172 (by kernel_rfl) ?_
  refine W_nil ?_
  refine N_then ?_
  refine G_seq ?_
  refine G_seq ?_
  obtain ⟨o6186, ho6187, hm6188⟩ := gx_bind hm
  refine G_meet (fun a w' => Mem [] w w' [sg6116, sg6123, sg6124] ∧ Sat Try.f6.ntmps [(14, .slice p5996 r6115.2.length c5997), (15, .slice p6001 r6122.2.length c6002), (19, .int .i64 r6122.1), (166, .bool o6186)] a) ?_ ?_
  · have hm := ho6187
    refine G_region ?_
    refine W_run 2 [(9, .slice p5194 r5187.2.1.length c5195), (10, .int .i64 r5187.2.2.1), (11, .bool r5187.2.2.2), (14, .slice p5996 r6115.2.length c5997), (15, .slice p6001 r6122.2.length c6002), (19, .int .i64 r6122.1), (22, .slice p6167 r6160.2.1.length c6168), (23, .int .i64 r6160.2.2.1), (24, .bool r6160.2.2.2), (147, .slice p6162 r6160.1.length c6163), (148, .slice p5189 r5187.1.length c5190)] w6172 (by kernel_rfl) ?_
    obtain ⟨r6189, hr6189, hm⟩ := gx_bind hm
    refine W_call 18 #[.slice p6162 r6160.1.length c6163, .slice p5189 r5187.1.length c5190] (by kernel_rfl) (by kernel_rfl) ?_
    refine (c_l_eqIntS w6172 r6160.1 p6162 c6163 (ho6165.rd M6174 9 (by kernel_rfl)) r5187.1 p5189 c5190 (ho5192.rd M6174 0 (by kernel_rfl)) hr6189).mono ?_
    rintro e_ w6190 ⟨rfl, K6191⟩
    have M6192 := M6174.call0 K6191
    refine ⟨_, rfl, ?_⟩
    refine W_run 2 [(9, .slice p5194 r5187.2.1.length c5195), (10, .int .i64 r5187.2.2.1), (11, .bool r5187.2.2.2), (14, .slice p5996 r6115.2.length c5997), (15, .slice p6001 r6122.2.length c6002), (19, .int .i64 r6122.1), (22, .slice p6167 r6160.2.1.length c6168), (23, .int .i64 r6160.2.2.1), (24, .bool r6160.2.2.2), (151, .bool (!r6189))] w6190 (by kernel_rfl) ?_
    rcases gx_bif hm with ⟨hc6193, hm⟩ | ⟨hc6193, hm⟩
    · refine W_known 151 true (by kernel_rfl) hc6193 ?_
      refine W_run 15 [(14, .slice p5996 r6115.2.length c5997), (15, .slice p6001 r6122.2.length c6002), (19, .int .i64 r6122.1), (166, .bool true)] w6190 (by kernel_rfl) ?_
      refine W_nil ?_
      obtain rfl := Option.some.inj hm
      exact N_meet fun a ha => ⟨M6192.pick [3, 4, 5] (by kernel_rfl), ha.sub (by kernel_rfl)⟩
    refine W_known 151 false (by kernel_rfl) hc6193 ?_
    refine W_run 2 [(10, .int .i64 r5187.2.2.1), (11, .bool r5187.2.2.2), (14, .slice p5996 r6115.2.length c5997), (15, .slice p6001 r6122.2.length c6002), (19, .int .i64 r6122.1), (23, .int .i64 r6160.2.2.1), (24, .bool r6160.2.2.2), (151, .bool false), (152, .slice p6167 r6160.2.1.length c6168), (153, .slice p5194 r5187.2.1.length c5195)] w6190 (by kernel_rfl) ?_
    obtain ⟨r6194, hr6194, hm⟩ := gx_bind hm
    refine W_call 19 #[.slice p6167 r6160.2.1.length c6168, .slice p5194 r5187.2.1.length c5195] (by kernel_rfl) (by kernel_rfl) ?_
    refine (c_l_eqBalloonS w6190 r6160.2.1 p6167 c6168 (ho6171.rd M6192 10 (by kernel_rfl) 11 (by kernel_rfl)) r5187.2.1 p5194 c5195 (ho5198.rd M6192 1 (by kernel_rfl) 2 (by kernel_rfl)) hr6194).mono ?_
    rintro e_ w6195 ⟨rfl, K6196⟩
    have M6197 := M6192.call0 K6196
    refine ⟨_, rfl, ?_⟩
    refine W_run 3 [(10, .int .i64 r5187.2.2.1), (11, .bool r5187.2.2.2), (14, .slice p5996 r6115.2.length c5997), (15, .slice p6001 r6122.2.length c6002), (19, .int .i64 r6122.1), (23, .int .i64 r6160.2.2.1), (24, .bool r6160.2.2.2), (157, .bool (!r6194))] w6195 (by kernel_rfl) ?_
    rcases gx_bif hm with ⟨hc6198, hm⟩ | ⟨hc6198, hm⟩
    · refine W_known 157 true (by kernel_rfl) hc6198 ?_
      refine W_run 9 [(14, .slice p5996 r6115.2.length c5997), (15, .slice p6001 r6122.2.length c6002), (19, .int .i64 r6122.1), (166, .bool true)] w6195 (by kernel_rfl) ?_
      refine W_nil ?_
      obtain rfl := Option.some.inj hm
      exact N_meet fun a ha => ⟨M6197.pick [3, 4, 5] (by kernel_rfl), ha.sub (by kernel_rfl)⟩
    refine W_known 157 false (by kernel_rfl) hc6198 ?_
    refine W_run 5 [(11, .bool r5187.2.2.2), (14, .slice p5996 r6115.2.length c5997), (15, .slice p6001 r6122.2.length c6002), (19, .int .i64 r6122.1), (24, .bool r6160.2.2.2), (162, .bool (r6160.2.2.1 != r5187.2.2.1))] w6195 (by kernel_rfl) ?_
    rcases gx_bif hm with ⟨hc6199, hm⟩ | ⟨hc6199, hm⟩
    · refine W_known 162 true (by kernel_rfl) hc6199 ?_
      refine W_run 4 [(14, .slice p5996 r6115.2.length c5997), (15, .slice p6001 r6122.2.length c6002), (19, .int .i64 r6122.1), (166, .bool true)] w6195 (by kernel_rfl) ?_
      refine W_nil ?_
      obtain rfl := Option.some.inj hm
      exact N_meet fun a ha => ⟨M6197.pick [3, 4, 5] (by kernel_rfl), ha.sub (by kernel_rfl)⟩
    refine W_known 162 false (by kernel_rfl) hc6199 ?_
    refine W_run 4 [(14, .slice p5996 r6115.2.length c5997), (15, .slice p6001 r6122.2.length c6002), (19, .int .i64 r6122.1), (166, .bool (!(r6160.2.2.2 == r5187.2.2.2)))] w6195 (by kernel_rfl) ?_
    refine W_nil ?_
    obtain rfl := Option.some.inj hm
    exact N_meet fun a ha => ⟨M6197.pick [3, 4, 5] (by kernel_rfl), ha.sub (by kernel_rfl)⟩
  intro a6202 w6200 ⟨M6201, hS6203⟩
  refine N_use hS6203 ?_
  have hm := hm6188
  refine N_then ?_
  rcases gx_bif hm with ⟨hc6204, hm⟩ | ⟨hc6204, hm⟩
  · refine G_cond_t (b := o6186) hc6204 (by kernel_rfl) ?_
    refine G_seq ?_
    refine G_region ?_
    refine W_run 1 [(6, .bool false)] w6200 (by kernel_rfl) ?_
    refine W_nil ?_
    refine N_then ?_
    refine G_ret ?_
    refine N_then_ret ?_
    obtain rfl := Option.some.inj hm
    refine N_ret [.bool false] (RVs_cons (RV_tmp (by kernel_rfl)) RVs_nil) ?_
    exact ⟨rfl, M6201.pick [] (by kernel_rfl)⟩
  refine G_cond_f (b := o6186) hc6204 (by kernel_rfl) ?_
  refine G_skip ?_
  refine N_then ?_
  refine G_seq ?_
  refine G_region ?_
  refine W_run 1 [(14, .slice p5996 r6115.2.length c5997), (15, .slice p6001 r6122.2.length c6002), (19, .int .i64 r6122.1), (20, .int .i64 1)] w6200 (by kernel_rfl) ?_
  refine W_nil ?_
  refine N_then ?_
  refine G_seq ?_
  refine G_region ?_
  refine W_run 2 [(15, .slice p6001 r6122.2.length c6002), (19, .int .i64 r6122.1), (20, .int .i64 1), (167, .slice p5996 r6115.2.length c5997), (168, .int .i64 1)] w6200 (by kernel_rfl) ?_
  obtain ⟨r6205, hr6205, hm⟩ := gx_bind hm
  refine W_call 29 #[.slice p5996 r6115.2.length c5997, .int .i64 1] (by kernel_rfl) (by kernel_rfl) ?_
  refine (c_l_heldIntS w6200 r6115.2 p5996 c5997 (ho6117.rd M6201 0 (by kernel_rfl)) 1 hr6205).mono ?_
  rintro e_ w6206 ⟨rfl, K6207⟩
  have M6208 := M6201.call0 K6207
  refine ⟨_, rfl, ?_⟩
  refine W_run 1 [(15, .slice p6001 r6122.2.length c6002), (19, .int .i64 r6122.1), (20, .int .i64 r6205)] w6206 (by kernel_rfl) ?_
  refine W_nil ?_
  refine N_then ?_
  refine G_seq ?_
  refine G_seq ?_
  refine G_region ?_
  refine W_run 2 [(15, .slice p6001 r6122.2.length c6002), (19, .int .i64 r6122.1), (20, .int .i64 r6205), (171, .bool (decide (r6205 < 0)))] w6206 (by kernel_rfl) ?_
  refine W_nil ?_
  refine N_then ?_
  rcases gx_bif hm with ⟨hc6209, hm⟩ | ⟨hc6209, hm⟩
  · refine G_cond_t (b := (decide (r6205 < 0))) hc6209 (by kernel_rfl) ?_
    refine G_seq ?_
    refine G_region ?_
    refine W_run 1 [(6, .bool false)] w6206 (by kernel_rfl) ?_
    refine W_nil ?_
    refine N_then ?_
    refine G_ret ?_
    refine N_then_ret ?_
    obtain rfl := Option.some.inj hm
    refine N_ret [.bool false] (RVs_cons (RV_tmp (by kernel_rfl)) RVs_nil) ?_
    exact ⟨rfl, M6208.pick [] (by kernel_rfl)⟩
  refine G_cond_f (b := (decide (r6205 < 0))) hc6209 (by kernel_rfl) ?_
  refine G_skip ?_
  refine N_then ?_
  refine G_seq ?_
  refine G_region ?_
  refine W_run 2 [(19, .int .i64 r6122.1), (20, .int .i64 r6205), (172, .slice p6001 r6122.2.length c6002), (173, .int .i64 r6205)] w6206 (by kernel_rfl) ?_
  obtain ⟨r6210, hr6210, hm⟩ := gx_bind hm
  refine W_call 26 #[.slice p6001 r6122.2.length c6002, .int .i64 r6205] (by kernel_rfl) (by kernel_rfl) ?_
  refine (c_l_heldBalloonS w6206 r6122.2 p6001 c6002 (ho6125.rd M6208 1 (by kernel_rfl) 2 (by kernel_rfl)) r6205 hr6210).mono ?_
  rintro e_ w6211 ⟨rfl, K6212⟩
  have M6213 := M6208.call0 K6212
  refine ⟨_, rfl, ?_⟩
  refine W_run 1 [(19, .int .i64 r6122.1), (20, .int .i64 r6210)] w6211 (by kernel_rfl) ?_
  refine W_nil ?_
  refine N_then ?_
  refine G_seq ?_
  refine G_seq ?_
  refine G_region ?_
  refine W_run 2 [(19, .int .i64 r6122.1), (20, .int .i64 r6210), (176, .bool (decide (r6210 < 0)))] w6211 (by kernel_rfl) ?_
  refine W_nil ?_
  refine N_then ?_
  rcases gx_bif hm with ⟨hc6214, hm⟩ | ⟨hc6214, hm⟩
  · refine G_cond_t (b := (decide (r6210 < 0))) hc6214 (by kernel_rfl) ?_
    refine G_seq ?_
    refine G_region ?_
    refine W_run 1 [(6, .bool false)] w6211 (by kernel_rfl) ?_
    refine W_nil ?_
    refine N_then ?_
    refine G_ret ?_
    refine N_then_ret ?_
    obtain rfl := Option.some.inj hm
    refine N_ret [.bool false] (RVs_cons (RV_tmp (by kernel_rfl)) RVs_nil) ?_
    exact ⟨rfl, M6213.pick [] (by kernel_rfl)⟩
  refine G_cond_f (b := (decide (r6210 < 0))) hc6214 (by kernel_rfl) ?_
  refine G_skip ?_
  refine N_then ?_
  refine G_seq ?_
  refine G_seq ?_
  refine G_region ?_
  refine W_run 3 [(179, .bool (r6210 != r6122.1))] w6211 (by kernel_rfl) ?_
  refine W_nil ?_
  refine N_then ?_
  rcases gx_bif hm with ⟨hc6215, hm⟩ | ⟨hc6215, hm⟩
  · refine G_cond_t (b := (r6210 != r6122.1)) hc6215 (by kernel_rfl) ?_
    refine G_seq ?_
    refine G_region ?_
    refine W_run 1 [(6, .bool false)] w6211 (by kernel_rfl) ?_
    refine W_nil ?_
    refine N_then ?_
    refine G_ret ?_
    refine N_then_ret ?_
    obtain rfl := Option.some.inj hm
    refine N_ret [.bool false] (RVs_cons (RV_tmp (by kernel_rfl)) RVs_nil) ?_
    exact ⟨rfl, M6213.pick [] (by kernel_rfl)⟩
  refine G_cond_f (b := (r6210 != r6122.1)) hc6215 (by kernel_rfl) ?_
  refine G_skip ?_
  refine N_then ?_
  refine G_seq ?_
  refine G_region ?_
  refine W_run 1 [(6, .bool true)] w6211 (by kernel_rfl) ?_
  refine W_nil ?_
  refine N_then ?_
  refine G_ret ?_
  obtain rfl := Option.some.inj hm
  refine N_ret [.bool true] (RVs_cons (RV_tmp (by kernel_rfl)) RVs_nil) ?_
  exact ⟨rfl, M6213.pick [] (by kernel_rfl)⟩
theorem c_s_l18Count (w : World) (x6415 : List Int) (p6417 : Option Addr) (c6418 : Nat) (h6419 : rdS Gx.encI w x6415 p6417 c6418) (x6420 : Int) {r : Int} (hm : M.s_l18Count x6415 x6420 = some r) :
    Calls Try.prog 65 #[.slice p6417 x6415.length c6418, .int .i64 x6420] w fun e w' => e = .returned (.int .i64 r) ∧ Mem [] w w' [] := by
  unfold M.s_l18Count at hm
  refine C_enter Try.func65 rfl (by kernel_rfl) ?_
  have M0 := Mem.refl [] w
  refine G_seq ?_
  refine G_region ?_
  refine W_run 1 [(0, .slice p6417 x6415.length c6418), (1, .int .i64 x6420)] w (by kernel_rfl) ?_
  refine W_nil ?_
  refine N_then ?_
  refine G_seq ?_
  refine G_region ?_
  refine W_run 1 [(0, .slice p6417 x6415.length c6418), (1, .int .i64 x6420), (5, .int .i64 0)] w (by kernel_rfl) ?_
  refine W_nil ?_
  refine N_then ?_
  refine G_seq ?_
  refine G_seq ?_
  refine G_region ?_
  refine W_run 1 [(0, .slice p6417 x6415.length c6418), (1, .int .i64 x6420), (5, .int .i64 0), (6, .int .i64 0)] w (by kernel_rfl) ?_
  refine W_nil ?_
  refine N_then ?_
  obtain ⟨out6450, hw6451, hmo6452⟩ := gx_bind hm
  refine G_meet (fun a w' => Mem [] w w' [] ∧ Sat Try.f65.ntmps [(5, .int .i64 out6450)] a) ?_ ?_
  · refine G_block ?_
    refine G_while (σ := Int × Int) (ρ := Int) (fun s6443 a w' => Mem [] w w' [] ∧ Sat Try.f65.ntmps [(0, .slice p6417 x6415.length c6418), (1, .int .i64 x6420), (5, .int .i64 s6443.1), (6, .int .i64 s6443.2)] a) hw6451 (fun a ha => ⟨M0.pick [] (by kernel_rfl), ha.sub (by kernel_rfl)⟩) ?_
    clear hm
    intro s6443 x6444 hm hout6445 a6446 w6447 ⟨M6448, hS6449⟩
    refine G_use hS6449 ?_
    refine G_seq ?_
    refine G_seq ?_
    refine G_region ?_
    refine W_run 4 [(0, .slice p6417 x6415.length c6418), (1, .int .i64 x6420), (5, .int .i64 s6443.1), (6, .int .i64 s6443.2), (10, .bool (decide (s6443.2 < (x6415.length : Int))))] w6447 (by kernel_rfl) ?_
    refine W_nil ?_
    refine N_then ?_
    rcases gx_bif hm with ⟨hc6454, hm⟩ | ⟨hc6454, hm⟩
    · refine G_cond_t (b := (decide (s6443.2 < (x6415.length : Int)))) hc6454 (by kernel_rfl) ?_
      refine G_skip ?_
      refine N_then ?_
      refine G_seq ?_
      refine G_block ?_
      refine G_seq ?_
      refine G_region ?_
      refine W_run 2 [(0, .slice p6417 x6415.length c6418), (1, .int .i64 x6420), (5, .int .i64 s6443.1), (6, .int .i64 s6443.2), (13, .slice p6417 x6415.length c6418), (14, .int .i64 s6443.2)] w6447 (by kernel_rfl) ?_
      obtain ⟨y6455, hy6455, hm⟩ := gx_bind hm
      refine W_val (elemP p6417 (s6443.2.toNat * 1)) w6447 (by kernel_rfl) (E_index (E := Gx.encI) _ _ _ x6415.length c6418 .i64 s6443.2 1 (y := y6455) rfl (by kernel_rfl) (by kernel_rfl) (by kernel_rfl) (h6419.mem0 M6448) rfl hy6455) ?_
      refine W_val (.int .i64 y6455) w6447 (by kernel_rfl) (E_loadE (E := Gx.encI) _ _ false 1 s6443.2 0 (s6443.2.toNat * 1) y6455 (.int .i64 y6455) rfl (by kernel_rfl) (by kernel_rfl) (by kernel_rfl) (h6419.mem0 M6448) hy6455 rfl) ?_
      refine W_run 2 [(0, .slice p6417 x6415.length c6418), (1, .int .i64 x6420), (5, .int .i64 s6443.1), (6, .int .i64 s6443.2), (18, .bool (y6455 == x6420))] w6447 (by kernel_rfl) ?_
      refine W_nil ?_
      refine N_then ?_
      obtain ⟨o6457, ho6458, hm6459⟩ := gx_bind hm
      refine G_meet (fun a w' => Mem [] w w' [] ∧ Sat Try.f65.ntmps [(0, .slice p6417 x6415.length c6418), (1, .int .i64 x6420), (5, .int .i64 o6457), (6, .int .i64 s6443.2)] a) ?_ ?_
      · have hm := ho6458
        rcases gx_bif hm with ⟨hc6460, hm⟩ | ⟨hc6460, hm⟩
        · refine G_cond_t (b := (y6455 == x6420)) hc6460 (by kernel_rfl) ?_
          refine G_region ?_
          refine W_run 3 [(0, .slice p6417 x6415.length c6418), (1, .int .i64 x6420), (5, .int .i64 (w64 (s6443.1 + 1))), (6, .int .i64 s6443.2)] w6447 (by kernel_rfl) ?_
          refine W_nil ?_
          obtain rfl := Option.some.inj hm
          exact N_meet fun a ha => ⟨M6448.pick [] (by kernel_rfl), ha.sub (by kernel_rfl)⟩
        refine G_cond_f (b := (y6455 == x6420)) hc6460 (by kernel_rfl) ?_
        refine G_skip ?_
        obtain rfl := Option.some.inj hm
        exact N_meet fun a ha => ⟨M6448.pick [] (by kernel_rfl), ha.sub (by kernel_rfl)⟩
      intro a6463 w6461 ⟨M6462, hS6464⟩
      refine N_use hS6464 ?_
      have hm := hm6459
      refine N_block ?_
      refine N_then ?_
      refine G_region ?_
      refine W_run 3 [(0, .slice p6417 x6415.length c6418), (1, .int .i64 x6420), (5, .int .i64 o6457), (6, .int .i64 (w64 (s6443.2 + 1)))] w6461 (by kernel_rfl) ?_
      refine W_nil ?_
      obtain rfl := Option.some.inj hm
      exact N_loop fun a ha => ⟨_, rfl, M6462.pick [] (by kernel_rfl), ha.sub (by kernel_rfl)⟩
    refine G_cond_f (b := (decide (s6443.2 < (x6415.length : Int)))) hc6454 (by kernel_rfl) ?_
    refine G_exit ?_
    refine N_then_exit ?_
    refine N_then_exit ?_
    refine N_block_eq ?_
    obtain rfl := Option.some.inj hm
    obtain rfl := hout6445 _ rfl
    exact N_meet fun a ha => ⟨M6448.pick [] (by kernel_rfl), ha.sub (by kernel_rfl)⟩
  intro a6465 w6466 ⟨M6467, hS6468⟩
  refine N_use hS6468 ?_
  have hm := hmo6452
  refine N_then ?_
  refine G_seq ?_
  refine G_region ?_
  refine W_run 2 [(4, .int .i64 out6450)] w6466 (by kernel_rfl) ?_
  refine W_nil ?_
  refine N_then ?_
  refine G_ret ?_
  obtain rfl := Option.some.inj hm
  refine N_ret [.int .i64 out6450] (RVs_cons (RV_tmp (by kernel_rfl)) RVs_nil) ?_
  exact ⟨rfl, M6467.pick [] (by kernel_rfl)⟩
theorem c_s_ShareGoals (w : World) (x6252 : List Int) (p6254 : Option Addr) (c6255 : Nat) (h6256 : rdS Gx.encI w x6252 p6254 c6255) (x6257 : List Balloon) (p6259 : Option Addr) (c6260 : Nat) (h6261 : rdD deepBalloon w x6257 p6259 c6260) (x6262 : Int) {r : (List Balloon) × Bool} (hm : M.s_ShareGoals x6252 x6257 x6262 = some r) :
    Calls Try.prog 30 #[.slice p6254 x6252.length c6255, .slice p6259 x6257.length c6260, .int .i64 x6262] w fun e w' => ∃ (p6264 : Option Addr) (c6265 : Nat) (sg6266 : Seg) (sg6267 : Seg), e = .returned (.tuple #[.slice p6264 r.1.length c6265, .bool r.2]) ∧ ownD deepBalloon r.1 p6264 c6265 sg6266 sg6267 ∧ Mem [] w w' [sg6266, sg6267] := by
  unfold M.s_ShareGoals at hm
  refine C_enter Try.func30 rfl (by kernel_rfl) ?_
  have M0 := Mem.refl [] w
  refine G_seq ?_
  refine G_region ?_
  refine W_run 2 [(0, .slice p6254 x6252.length c6255), (1, .slice p6259 x6257.length c6260), (2, .int .i64 x6262)] w (by kernel_rfl) ?_
  refine W_nil ?_
  refine N_then ?_
  refine G_seq ?_
  refine G_seq ?_
  obtain ⟨o6278, ho6279, hm6280⟩ := gx_bind hm
  refine G_meet (fun a w' => Mem [] w w' [] ∧ Sat Try.f30.ntmps [(0, .slice p6254 x6252.length c6255), (1, .slice p6259 x6257.length c6260), (2, .int .i64 x6262), (22, .bool o6278)] a) ?_ ?_
  · have hm := ho6279
    refine G_region ?_
    refine W_run 2 [(0, .slice p6254 x6252.length c6255), (1, .slice p6259 x6257.length c6260), (2, .int .i64 x6262), (14, .slice p6254 x6252.length c6255), (15, .slice p6259 x6257.length c6260)] w (by kernel_rfl) ?_
    obtain ⟨r6281, hr6281, hm⟩ := gx_bind hm
    refine W_call 47 #[.slice p6254 x6252.length c6255, .slice p6259 x6257.length c6260] (by kernel_rfl) (by kernel_rfl) ?_
    refine (c_s_l18Good w x6252 p6254 c6255 (h6256.mem0 M0) x6257 p6259 c6260 (h6261.mem0 M0) hr6281).mono ?_
    rintro e_ w6282 ⟨rfl, K6283⟩
    have M6284 := M0.call0 K6283
    refine ⟨_, rfl, ?_⟩
    refine W_run 2 [(0, .slice p6254 x6252.length c6255), (1, .slice p6259 x6257.length c6260), (2, .int .i64 x6262), (18, .bool (!r6281))] w6282 (by kernel_rfl) ?_
    rcases gx_bif hm with ⟨hc6285, hm⟩ | ⟨hc6285, hm⟩
    · refine W_known 18 true (by kernel_rfl) hc6285 ?_
      refine W_run 4 [(0, .slice p6254 x6252.length c6255), (1, .slice p6259 x6257.length c6260), (2, .int .i64 x6262), (22, .bool true)] w6282 (by kernel_rfl) ?_
      refine W_nil ?_
      obtain rfl := Option.some.inj hm
      exact N_meet fun a ha => ⟨M6284.pick [] (by kernel_rfl), ha.sub (by kernel_rfl)⟩
    refine W_known 18 false (by kernel_rfl) hc6285 ?_
    refine W_run 1 [(0, .slice p6254 x6252.length c6255), (1, .slice p6259 x6257.length c6260), (2, .int .i64 x6262), (18, .bool false), (19, .int .i64 x6262)] w6282 (by kernel_rfl) ?_
    obtain ⟨r6286, hr6286, hm⟩ := gx_bind hm
    refine W_call 57 #[.int .i64 x6262, .int .i64 0, .int .i64 16] (by kernel_rfl) (by kernel_rfl) ?_
    refine (c_s_l1In w6282 x6262 0 16 hr6286).mono ?_
    rintro e_ w6287 ⟨rfl, K6288⟩
    have M6289 := M6284.call0 K6288
    refine ⟨_, rfl, ?_⟩
    refine W_run 2 [(0, .slice p6254 x6252.length c6255), (1, .slice p6259 x6257.length c6260), (2, .int .i64 x6262), (22, .bool (!r6286))] w6287 (by kernel_rfl) ?_
    refine W_nil ?_
    obtain rfl := Option.some.inj hm
    exact N_meet fun a ha => ⟨M6289.pick [] (by kernel_rfl), ha.sub (by kernel_rfl)⟩
  intro a6292 w6290 ⟨M6291, hS6293⟩
  refine N_use hS6293 ?_
  have hm := hm6280
  refine N_then ?_
  rcases gx_bif hm with ⟨hc6294, hm⟩ | ⟨hc6294, hm⟩
  · refine G_cond_t (b := o6278) hc6294 (by kernel_rfl) ?_
    refine G_seq ?_
    refine G_region ?_
    have M6295 : Mem [] w w6290 [] := M6291.pick [] (by kernel_rfl)
    have M6296 : Mem [] w w6290 [[]] := M6295.regroup (by simp)
    refine W_litD (D := deepBalloon) [] ([] : List Balloon) rfl 0 [] 50 M6296 (by kernel_rfl) (by kernel_rfl) (by kernel_rfl) (by kernel_rfl) (by kernel_rfl) ownI_nil ?_
    intro p6297 c6298 sg6299 w6300 ho6301 M6302
    refine W_run 2 [(6, .slice p6297 ([] : List Balloon).length c6298), (7, .bool false)] w6300 (by kernel_rfl) ?_
    refine W_nil ?_
    refine N_then ?_
    refine G_ret ?_
    refine N_then_ret ?_
    obtain rfl := Option.some.inj hm
    refine N_ret [.slice p6297 ([] : List Balloon).length c6298, .bool false] (RVs_cons (RV_tmp (by kernel_rfl)) (RVs_cons (RV_tmp (by kernel_rfl)) RVs_nil)) ?_
    exact ⟨p6297, c6298, sg6299, [], rfl, ho6301, M6302.pick [1, 0] (by kernel_rfl)⟩
  refine G_cond_f (b := o6278) hc6294 (by kernel_rfl) ?_
  refine G_skip ?_
  refine N_then ?_
  refine G_seq ?_
  refine G_region ?_
  refine W_run 1 [(0, .slice p6254 x6252.length c6255), (2, .int .i64 x6262), (24, .slice p6259 x6257.length c6260)] w6290 (by kernel_rfl) ?_
  obtain ⟨r6305, hr6305, hm⟩ := gx_bind hm
  refine W_call 58 #[.slice p6259 x6257.length c6260, .int .i64 (-1), .int .i64 0, .slice none 0 0] (by kernel_rfl) (by kernel_rfl) ?_
  refine (c_s_l18With w6290 x6257 p6259 c6260 (h6261.mem0 M6291) (-1) 0 ([] : List Int) none 0 rdS_nil hr6305).mono ?_
  rintro e_ w6312 ⟨p6307, c6308, sg6309, sg6310, rfl, ho6311, K6313⟩
  have M6314 := M6291.call K6313
  refine ⟨_, rfl, ?_⟩
  refine W_run 1 [(0, .slice p6254 x6252.length c6255), (2, .int .i64 x6262), (8, .slice p6307 r6305.length c6308)] w6312 (by kernel_rfl) ?_
  refine W_nil ?_
  refine N_then ?_
  refine G_seq ?_
  refine G_seq ?_
  refine G_region ?_
  refine W_run 1 [(0, .slice p6254 x6252.length c6255), (2, .int .i64 x6262), (8, .slice p6307 r6305.length c6308), (9, .int .i64 0)] w6312 (by kernel_rfl) ?_
  refine W_nil ?_
  refine N_then ?_
  obtain ⟨out6366, hw6367, hmo6368⟩ := gx_bind hm
  refine G_meet (fun a w' => ∃ (p6376 : Option Addr), ∃ (c6377 : Nat), ∃ (sg6378 : Seg), ∃ (sg6379 : Seg), ownD deepBalloon out6366 p6376 c6377 sg6378 sg6379 ∧ Mem [] w w' [sg6378, sg6379] ∧ Sat Try.f30.ntmps [(0, .slice p6254 x6252.length c6255), (2, .int .i64 x6262), (8, .slice p6376 out6366.length c6377)] a) ?_ ?_
  · refine G_block ?_
    refine G_while (σ := List Balloon × Int) (ρ := List Balloon) (fun s6359 a w' => ∃ (p6369 : Option Addr), ∃ (c6370 : Nat), ∃ (sg6371 : Seg), ∃ (sg6372 : Seg), ownD deepBalloon s6359.1 p6369 c6370 sg6371 sg6372 ∧ Mem [] w w' [sg6371, sg6372] ∧ Sat Try.f30.ntmps [(0, .slice p6254 x6252.length c6255), (2, .int .i64 x6262), (8, .slice p6369 s6359.1.length c6370), (9, .int .i64 s6359.2)] a) hw6367 (fun a ha => ⟨p6307, c6308, sg6309, sg6310, ho6311, M6314.pick [0, 1] (by kernel_rfl), ha.sub (by kernel_rfl)⟩) ?_
    clear hm
    intro s6359 x6360 hm hout6361 a6362 w6363 ⟨p6369, c6370, sg6371, sg6372, ho6373, M6364, hS6365⟩
    refine G_use hS6365 ?_
    refine G_seq ?_
    refine G_seq ?_
    refine G_region ?_
    refine W_run 4 [(0, .slice p6254 x6252.length c6255), (2, .int .i64 x6262), (8, .slice p6369 s6359.1.length c6370), (9, .int .i64 s6359.2), (29, .bool (decide (s6359.2 < (s6359.1.length : Int))))] w6363 (by kernel_rfl) ?_
    refine W_nil ?_
    refine N_then ?_
    rcases gx_bif hm with ⟨hc6382, hm⟩ | ⟨hc6382, hm⟩
    · refine G_cond_t (b := (decide (s6359.2 < (s6359.1.length : Int)))) hc6382 (by kernel_rfl) ?_
      refine G_skip ?_
      refine N_then ?_
      refine G_seq ?_
      refine G_block ?_
      refine G_region ?_
      refine W_run 4 [(0, .slice p6254 x6252.length c6255), (2, .int .i64 x6262), (8, .slice p6369 s6359.1.length c6370), (9, .int .i64 s6359.2), (32, .slice p6369 s6359.1.length c6370), (33, .int .i64 s6359.2), (34, .slice p6369 s6359.1.length c6370), (35, .int .i64 s6359.2)] w6363 (by kernel_rfl) ?_
      obtain ⟨y6383, hy6383, hm⟩ := gx_bind hm
      obtain ⟨zs6384, hz6385, hr6386, hi6387⟩ := id ho6373
      obtain ⟨g6388, hg6389⟩ := gxIdx_fst hz6385 hy6383
      refine W_val (elemP p6369 (s6359.2.toNat * 3)) w6363 (by kernel_rfl) (E_index (E := deepBalloon.E) _ _ _ s6359.1.length c6370 .i64 s6359.2 3 (y := (y6383, g6388)) rfl (by kernel_rfl) (by kernel_rfl) (by kernel_rfl) (hr6386.rd M6364 0 (by kernel_rfl)) (len_fst hz6385) hg6389) ?_
      refine W_val (elemP p6369 (s6359.2.toNat * 3 + 2)) w6363 (by kernel_rfl) (E_fieldE (E := deepBalloon.E) _ _ 2 (s6359.2.toNat * 3) 2 rfl (by kernel_rfl) (by kernel_rfl) (hr6386.rd M6364 0 (by kernel_rfl)) hg6389) ?_
      refine W_val (.slice ((g6388 0).1) y6383.Gave.length ((g6388 0).2)) w6363 (by kernel_rfl) (E_loadE (E := deepBalloon.E) _ _ false 1 s6359.2 2 (s6359.2.toNat * 3 + 2) (y6383, g6388) (.slice ((g6388 0).1) y6383.Gave.length ((g6388 0).2)) rfl (by kernel_rfl) (by kernel_rfl) (by kernel_rfl) (hr6386.rd M6364 0 (by kernel_rfl)) hg6389 rfl) ?_
      obtain ⟨r6391, hr6391, hm⟩ := gx_bind hm
      refine W_call 58 #[.slice p6369 s6359.1.length c6370, .int .i64 s6359.2, .int .i64 0, .slice ((g6388 0).1) y6383.Gave.length ((g6388 0).2)] (by kernel_rfl) (by kernel_rfl) ?_
      refine (c_s_l18With w6363 s6359.1 p6369 c6370 (ho6373.rd M6364 0 (by kernel_rfl) 1 (by kernel_rfl)) s6359.2 0 y6383.Gave ((g6388 0).1) ((g6388 0).2) ((hi6387.rd M6364 1 (by kernel_rfl)).at_ hg6389 0 ⟨Int, Gx.encI, y6383.Gave, (g6388 0).1, (g6388 0).2⟩ (by kernel_rfl)) hr6391).mono ?_
      rintro e_ w6398 ⟨p6393, c6394, sg6395, sg6396, rfl, ho6397, K6399⟩
      have M6400 := M6364.call K6399
      refine ⟨_, rfl, ?_⟩
      refine W_run 1 [(0, .slice p6254 x6252.length c6255), (2, .int .i64 x6262), (8, .slice p6393 r6391.length c6394), (9, .int .i64 s6359.2)] w6398 (by kernel_rfl) ?_
      refine W_nil ?_
      refine N_block ?_
      refine N_then ?_
      refine G_region ?_
      refine W_run 3 [(0, .slice p6254 x6252.length c6255), (2, .int .i64 x6262), (8, .slice p6393 r6391.length c6394), (9, .int .i64 (w64 (s6359.2 + 1)))] w6398 (by kernel_rfl) ?_
      refine W_nil ?_
      obtain rfl := Option.some.inj hm
      exact N_loop fun a ha => ⟨_, rfl, p6393, c6394, sg6395, sg6396, ho6397, M6400.pick [2, 3] (by kernel_rfl), ha.sub (by kernel_rfl)⟩
    refine G_cond_f (b := (decide (s6359.2 < (s6359.1.length : Int)))) hc6382 (by kernel_rfl) ?_
    refine G_exit ?_
    refine N_then_exit ?_
    refine N_then_exit ?_
    refine N_block_eq ?_
    obtain rfl := Option.some.inj hm
    obtain rfl := hout6361 _ rfl
    exact N_meet fun a ha => ⟨p6369, c6370, sg6371, sg6372, ho6373, M6364.pick [0, 1] (by kernel_rfl), ha.sub (by kernel_rfl)⟩
  intro a6401 w6402 ⟨p6376, c6377, sg6378, sg6379, ho6380, M6403, hS6404⟩
  refine N_use hS6404 ?_
  have hm := hmo6368
  refine N_then ?_
  refine G_seq ?_
  obtain ⟨out6874, hw6875, hmo6876⟩ := gx_bind hm
  refine G_meet (fun a w' => ∃ (o6883 : List Balloon), ∃ (p6884 : Option Addr), ∃ (c6885 : Nat), ∃ (sg6886 : Seg), ∃ (sg6887 : Seg), ownD deepBalloon o6883 p6884 c6885 sg6886 sg6887 ∧ out6874 = .inl o6883 ∧ Mem [] w w' [sg6886, sg6887] ∧ Sat Try.f30.ntmps [(8, .slice p6884 o6883.length c6885)] a) ?_ ?_
  · refine G_block ?_
    refine G_while (σ := Int × List Balloon) (ρ := (List Balloon) ⊕ ((List Balloon) × Bool)) (fun s6867 a w' => ∃ (p6877 : Option Addr), ∃ (c6878 : Nat), ∃ (sg6879 : Seg), ∃ (sg6880 : Seg), ownD deepBalloon s6867.2 p6877 c6878 sg6879 sg6880 ∧ Mem [] w w' [sg6879, sg6880] ∧ Sat Try.f30.ntmps [(0, .slice p6254 x6252.length c6255), (2, .int .i64 s6867.1), (8, .slice p6877 s6867.2.length c6878)] a) hw6875 (fun a ha => ⟨p6376, c6377, sg6378, sg6379, ho6380, M6403.pick [0, 1] (by kernel_rfl), ha.sub (by kernel_rfl)⟩) ?_
    clear hm
    intro s6867 x6868 hm hout6869 a6870 w6871 ⟨p6877, c6878, sg6879, sg6880, ho6881, M6872, hS6873⟩
    refine G_use hS6873 ?_
    refine G_seq ?_
    refine G_seq ?_
    refine G_region ?_
    refine W_run 2 [(0, .slice p6254 x6252.length c6255), (2, .int .i64 s6867.1), (8, .slice p6877 s6867.2.length c6878), (41, .bool (decide (s6867.1 > 0)))] w6871 (by kernel_rfl) ?_
    refine W_nil ?_
    refine N_then ?_
    rcases gx_bif hm with ⟨hc6890, hm⟩ | ⟨hc6890, hm⟩
    · refine G_cond_t (b := (decide (s6867.1 > 0))) hc6890 (by kernel_rfl) ?_
      refine G_skip ?_
      refine N_then ?_
      refine G_seq ?_
      refine G_block ?_
      refine G_seq ?_
      refine G_region ?_
      refine W_run 2 [(0, .slice p6254 x6252.length c6255), (2, .int .i64 s6867.1), (8, .slice p6877 s6867.2.length c6878), (10, .int .i64 (-1)), (11, .int .i64 1)] w6871 (by kernel_rfl) ?_
      refine W_nil ?_
      refine N_then ?_
      refine G_seq ?_
      refine G_seq ?_
      refine G_region ?_
      refine W_run 1 [(0, .slice p6254 x6252.length c6255), (2, .int .i64 s6867.1), (8, .slice p6877 s6867.2.length c6878), (10, .int .i64 (-1)), (11, .int .i64 1), (12, .int .i64 0)] w6871 (by kernel_rfl) ?_
      refine W_nil ?_
      refine N_then ?_
      obtain ⟨out6962, hw6963, hmo6964⟩ := gx_bind hm
      refine G_meet (fun a w' => Mem [] w w' [sg6879, sg6880] ∧ Sat Try.f30.ntmps [(0, .slice p6254 x6252.length c6255), (2, .int .i64 s6867.1), (8, .slice p6877 s6867.2.length c6878), (10, .int .i64 out6962)] a) ?_ ?_
      · refine G_block ?_
        refine G_while (σ := Int × Int × Int) (ρ := Int) (fun s6955 a w' => Mem [] w w' [sg6879, sg6880] ∧ Sat Try.f30.ntmps [(0, .slice p6254 x6252.length c6255), (2, .int .i64 s6867.1), (8, .slice p6877 s6867.2.length c6878), (10, .int .i64 s6955.1), (11, .int .i64 s6955.2.1), (12, .int .i64 s6955.2.2)] a) hw6963 (fun a ha => ⟨M6872.pick [0, 1] (by kernel_rfl), ha.sub (by kernel_rfl)⟩) ?_
        clear hm
        intro s6955 x6956 hm hout6957 a6958 w6959 ⟨M6960, hS6961⟩
        refine G_use hS6961 ?_
        refine G_seq ?_
        refine G_seq ?_
        refine G_region ?_
        refine W_run 4 [(0, .slice p6254 x6252.length c6255), (2, .int .i64 s6867.1), (8, .slice p6877 s6867.2.length c6878), (10, .int .i64 s6955.1), (11, .int .i64 s6955.2.1), (12, .int .i64 s6955.2.2), (47, .bool (decide (s6955.2.2 < (s6867.2.length : Int))))] w6959 (by kernel_rfl) ?_
        refine W_nil ?_
        refine N_then ?_
        rcases gx_bif hm with ⟨hc6966, hm⟩ | ⟨hc6966, hm⟩
        · refine G_cond_t (b := (decide (s6955.2.2 < (s6867.2.length : Int)))) hc6966 (by kernel_rfl) ?_
          refine G_skip ?_
          refine N_then ?_
          refine G_seq ?_
          refine G_block ?_
          refine G_seq ?_
          refine G_quiet (by kernel_rfl) (by kernel_rfl) M6960 ?_
          refine Z_runs [.slice p6254 x6252.length c6255, .slice p6877 s6867.2.length c6878, .int .i64 s6955.2.2] [(0, .slice p6254 x6252.length c6255), (2, .int .i64 s6867.1), (8, .slice p6877 s6867.2.length c6878), (10, .int .i64 s6955.1), (11, .int .i64 s6955.2.1), (12, .int .i64 s6955.2.2), (50, .slice p6254 x6252.length c6255), (51, .slice p6877 s6867.2.length c6878), (52, .int .i64 s6955.2.2)] (fun w_ => by kernel_rfl) (by kernel_rfl) ?_
          obtain ⟨y6967, hy6967, hm⟩ := gx_bind hm
          obtain ⟨zs6968, hz6969, hr6970, hi6971⟩ := id ho6881
          obtain ⟨g6972, hg6973⟩ := gxIdx_fst hz6969 hy6967
          refine Z_val (elemP p6877 (s6955.2.2.toNat * 3)) (by kernel_rfl) (fun w_ M_ => (E_index (E := deepBalloon.E) _ _ _ s6867.2.length c6878 .i64 s6955.2.2 3 (y := (y6967, g6972)) rfl (by kernel_rfl) (by kernel_rfl) (by kernel_rfl) (hr6970.rd M_ 0 (by kernel_rfl)) (len_fst hz6969) hg6973)) ?_
          refine Z_val (elemP p6877 (s6955.2.2.toNat * 3 + 0)) (by kernel_rfl) (fun w_ M_ => (E_fieldE (E := deepBalloon.E) _ _ 0 (s6955.2.2.toNat * 3) 0 rfl (by kernel_rfl) (by kernel_rfl) (hr6970.rd M_ 0 (by kernel_rfl)) hg6973)) ?_
          refine Z_val (.int .i64 y6967.Guest) (by kernel_rfl) (fun w_ M_ => (E_loadE (E := deepBalloon.E) _ _ false 1 s6955.2.2 0 (s6955.2.2.toNat * 3 + 0) (y6967, g6972) (.int .i64 y6967.Guest) rfl (by kernel_rfl) (by kernel_rfl) (by kernel_rfl) (hr6970.rd M_ 0 (by kernel_rfl)) hg6973 rfl)) ?_
          obtain ⟨r6975, hr6975, hm⟩ := gx_bind hm
          refine Z_call 65 #[.slice p6254 x6252.length c6255, .int .i64 y6967.Guest] (.int .i64 r6975) (by kernel_rfl) (fun w_ => by kernel_rfl) (fun w_ M_ => (c_s_l18Count w_ x6252 p6254 c6255 (h6256.mem0 M_) y6967.Guest hr6975).mono fun e w2_ h_ => ⟨h_.1, M_.call0 h_.2⟩) ?_
          refine Z_runs [.slice p6877 s6867.2.length c6878, .int .i64 s6955.2.2] [(0, .slice p6254 x6252.length c6255), (2, .int .i64 s6867.1), (8, .slice p6877 s6867.2.length c6878), (10, .int .i64 s6955.1), (11, .int .i64 s6955.2.1), (12, .int .i64 s6955.2.2), (56, .int .i64 r6975), (57, .slice p6877 s6867.2.length c6878), (58, .int .i64 s6955.2.2)] (fun w_ => by kernel_rfl) (by kernel_rfl) ?_
          obtain ⟨y6979, hy6979, hm⟩ := gx_bind hm
          obtain ⟨g6980, hg6981⟩ := gxIdx_fst hz6969 hy6979
          refine Z_val (elemP p6877 (s6955.2.2.toNat * 3)) (by kernel_rfl) (fun w_ M_ => (E_index (E := deepBalloon.E) _ _ _ s6867.2.length c6878 .i64 s6955.2.2 3 (y := (y6979, g6980)) rfl (by kernel_rfl) (by kernel_rfl) (by kernel_rfl) (hr6970.rd M_ 0 (by kernel_rfl)) (len_fst hz6969) hg6981)) ?_
          refine Z_val (elemP p6877 (s6955.2.2.toNat * 3 + 2)) (by kernel_rfl) (fun w_ M_ => (E_fieldE (E := deepBalloon.E) _ _ 2 (s6955.2.2.toNat * 3) 2 rfl (by kernel_rfl) (by kernel_rfl) (hr6970.rd M_ 0 (by kernel_rfl)) hg6981)) ?_
          refine Z_val (.slice ((g6980 0).1) y6979.Gave.length ((g6980 0).2)) (by kernel_rfl) (fun w_ M_ => (E_loadE (E := deepBalloon.E) _ _ false 1 s6955.2.2 2 (s6955.2.2.toNat * 3 + 2) (y6979, g6980) (.slice ((g6980 0).1) y6979.Gave.length ((g6980 0).2)) rfl (by kernel_rfl) (by kernel_rfl) (by kernel_rfl) (hr6970.rd M_ 0 (by kernel_rfl)) hg6981 rfl)) ?_
          refine Z_runs [.int .i64 (y6979.Gave.length : Int), .int .i64 (w64 (r6975 + (y6979.Gave.length : Int))), .slice p6877 s6867.2.length c6878, .int .i64 s6955.2.2] [(0, .slice p6254 x6252.length c6255), (2, .int .i64 s6867.1), (8, .slice p6877 s6867.2.length c6878), (10, .int .i64 s6955.1), (11, .int .i64 s6955.2.1), (12, .int .i64 s6955.2.2), (63, .int .i64 (w64 (r6975 + (y6979.Gave.length : Int)))), (64, .slice p6877 s6867.2.length c6878), (65, .int .i64 s6955.2.2)] (fun w_ => by kernel_rfl) (by kernel_rfl) ?_
          obtain ⟨y6983, hy6983, hm⟩ := gx_bind hm
          obtain ⟨g6984, hg6985⟩ := gxIdx_fst hz6969 hy6983
          refine Z_val (elemP p6877 (s6955.2.2.toNat * 3)) (by kernel_rfl) (fun w_ M_ => (E_index (E := deepBalloon.E) _ _ _ s6867.2.length c6878 .i64 s6955.2.2 3 (y := (y6983, g6984)) rfl (by kernel_rfl) (by kernel_rfl) (by kernel_rfl) (hr6970.rd M_ 0 (by kernel_rfl)) (len_fst hz6969) hg6985)) ?_
          refine Z_val (elemP p6877 (s6955.2.2.toNat * 3 + 1)) (by kernel_rfl) (fun w_ M_ => (E_fieldE (E := deepBalloon.E) _ _ 1 (s6955.2.2.toNat * 3) 1 rfl (by kernel_rfl) (by kernel_rfl) (hr6970.rd M_ 0 (by kernel_rfl)) hg6985)) ?_
          refine Z_val (.int .i64 y6983.Goal) (by kernel_rfl) (fun w_ M_ => (E_loadE (E := deepBalloon.E) _ _ false 1 s6955.2.2 1 (s6955.2.2.toNat * 3 + 1) (y6983, g6984) (.int .i64 y6983.Goal) rfl (by kernel_rfl) (by kernel_rfl) (by kernel_rfl) (hr6970.rd M_ 0 (by kernel_rfl)) hg6985 rfl)) ?_
          refine Z_runs [.int .i64 (w64 ((w64 (r6975 + (y6979.Gave.length : Int))) - y6983.Goal)), .int .i64 (w64 ((w64 (r6975 + (y6979.Gave.length : Int))) - y6983.Goal))] [(0, .slice p6254 x6252.length c6255), (2, .int .i64 s6867.1), (8, .slice p6877 s6867.2.length c6878), (10, .int .i64 s6955.1), (11, .int .i64 s6955.2.1), (12, .int .i64 s6955.2.2), (13, .int .i64 (w64 ((w64 (r6975 + (y6979.Gave.length : Int))) - y6983.Goal)))] (fun w_ => by kernel_rfl) (by kernel_rfl) ?_
          refine Z_end fun w6987 M6988 => ?_
          refine N_then ?_
          refine G_seq ?_
          refine G_region ?_
          refine W_run 3 [(0, .slice p6254 x6252.length c6255), (2, .int .i64 s6867.1), (8, .slice p6877 s6867.2.length c6878), (10, .int .i64 s6955.1), (11, .int .i64 s6955.2.1), (12, .int .i64 s6955.2.2), (13, .int .i64 (w64 ((w64 (r6975 + (y6979.Gave.length : Int))) - y6983.Goal))), (72, .bool (decide ((w64 ((w64 (r6975 + (y6979.Gave.length : Int))) - y6983.Goal)) > s6955.2.1)))] w6987 (by kernel_rfl) ?_
          refine W_nil ?_
          refine N_then ?_
          obtain ⟨o6990, ho6991, hm6992⟩ := gx_bind hm
          refine G_meet (fun a w' => Mem [] w w' [sg6879, sg6880] ∧ Sat Try.f30.ntmps [(0, .slice p6254 x6252.length c6255), (2, .int .i64 s6867.1), (8, .slice p6877 s6867.2.length c6878), (10, .int .i64 o6990.1), (11, .int .i64 o6990.2), (12, .int .i64 s6955.2.2)] a) ?_ ?_
          · have hm := ho6991
            rcases gx_bif hm with ⟨hc6993, hm⟩ | ⟨hc6993, hm⟩
            · refine G_cond_t (b := (decide ((w64 ((w64 (r6975 + (y6979.Gave.length : Int))) - y6983.Goal)) > s6955.2.1))) hc6993 (by kernel_rfl) ?_
              refine G_seq ?_
              refine G_region ?_
              refine W_run 2 [(0, .slice p6254 x6252.length c6255), (2, .int .i64 s6867.1), (8, .slice p6877 s6867.2.length c6878), (10, .int .i64 s6955.2.2), (12, .int .i64 s6955.2.2), (13, .int .i64 (w64 ((w64 (r6975 + (y6979.Gave.length : Int))) - y6983.Goal)))] w6987 (by kernel_rfl) ?_
              refine W_nil ?_
              refine N_then ?_
              refine G_region ?_
              refine W_run 2 [(0, .slice p6254 x6252.length c6255), (2, .int .i64 s6867.1), (8, .slice p6877 s6867.2.length c6878), (10, .int .i64 s6955.2.2), (11, .int .i64 (w64 ((w64 (r6975 + (y6979.Gave.length : Int))) - y6983.Goal))), (12, .int .i64 s6955.2.2)] w6987 (by kernel_rfl) ?_
              refine W_nil ?_
              obtain rfl := Option.some.inj hm
              exact N_meet fun a ha => ⟨M6988.pick [0, 1] (by kernel_rfl), ha.sub (by kernel_rfl)⟩
            refine G_cond_f (b := (decide ((w64 ((w64 (r6975 + (y6979.Gave.length : Int))) - y6983.Goal)) > s6955.2.1))) hc6993 (by kernel_rfl) ?_
            refine G_skip ?_
            obtain rfl := Option.some.inj hm
            exact N_meet fun a ha => ⟨M6988.pick [0, 1] (by kernel_rfl), ha.sub (by kernel_rfl)⟩
          intro a6996 w6994 ⟨M6995, hS6997⟩
          refine N_use hS6997 ?_
          have hm := hm6992
          refine N_block ?_
          refine N_then ?_
          refine G_region ?_
          refine W_run 3 [(0, .slice p6254 x6252.length c6255), (2, .int .i64 s6867.1), (8, .slice p6877 s6867.2.length c6878), (10, .int .i64 o6990.1), (11, .int .i64 o6990.2), (12, .int .i64 (w64 (s6955.2.2 + 1)))] w6994 (by kernel_rfl) ?_
          refine W_nil ?_
          obtain rfl := Option.some.inj hm
          exact N_loop fun a ha => ⟨_, rfl, M6995.pick [0, 1] (by kernel_rfl), ha.sub (by kernel_rfl)⟩
        refine G_cond_f (b := (decide (s6955.2.2 < (s6867.2.length : Int)))) hc6966 (by kernel_rfl) ?_
        refine G_exit ?_
        refine N_then_exit ?_
        refine N_then_exit ?_
        refine N_block_eq ?_
        obtain rfl := Option.some.inj hm
        obtain rfl := hout6957 _ rfl
        exact N_meet fun a ha => ⟨M6960.pick [0, 1] (by kernel_rfl), ha.sub (by kernel_rfl)⟩
      intro a6998 w6999 ⟨M7000, hS7001⟩
      refine N_use hS7001 ?_
      have hm := hmo6964
      refine N_then ?_
      refine G_seq ?_
      refine G_seq ?_
      refine G_region ?_
      refine W_run 2 [(0, .slice p6254 x6252.length c6255), (2, .int .i64 s6867.1), (8, .slice p6877 s6867.2.length c6878), (10, .int .i64 out6962), (76, .bool (decide (out6962 < 0)))] w6999 (by kernel_rfl) ?_
      refine W_nil ?_
      refine N_then ?_
      rcases gx_bif hm with ⟨hc7002, hm⟩ | ⟨hc7002, hm⟩
      · refine G_cond_t (b := (decide (out6962 < 0))) hc7002 (by kernel_rfl) ?_
        refine G_seq ?_
        refine G_region ?_
        have M7003 : Mem [] w w6999 [sg6879, sg6880] := M7000.pick [0, 1] (by kernel_rfl)
        have M7004 : Mem [] w w6999 [sg6879, sg6880, []] := M7003.regroup (by simp)
        refine W_litD (D := deepBalloon) [] ([] : List Balloon) rfl 0 [] 50 M7004 (by kernel_rfl) (by kernel_rfl) (by kernel_rfl) (by kernel_rfl) (by kernel_rfl) ownI_nil ?_
        intro p7005 c7006 sg7007 w7008 ho7009 M7010
        refine W_run 2 [(6, .slice p7005 ([] : List Balloon).length c7006), (7, .bool false)] w7008 (by kernel_rfl) ?_
        refine W_nil ?_
        refine N_then ?_
        refine G_ret ?_
        refine N_then_ret ?_
        refine N_block_ret ?_
        refine N_then_ret ?_
        refine N_then_ret ?_
        obtain rfl := Option.some.inj hm
        obtain rfl := hout6869 _ rfl
        have hm := hmo6876; simp only [Sum.elim_inr] at hm
        refine N_block_ret ?_
        refine N_meet_ret ?_
        refine N_then_ret ?_
        obtain rfl := Option.some.inj hm
        refine N_ret [.slice p7005 ([] : List Balloon).length c7006, .bool false] (RVs_cons (RV_tmp (by kernel_rfl)) (RVs_cons (RV_tmp (by kernel_rfl)) RVs_nil)) ?_
        exact ⟨p7005, c7006, sg7007, [], rfl, ho7009, M7010.pick [3, 2] (by kernel_rfl)⟩
      refine G_cond_f (b := (decide (out6962 < 0))) hc7002 (by kernel_rfl) ?_
      refine G_skip ?_
      refine N_then ?_
      obtain ⟨y7014, hy7014, hm⟩ := gx_bind hm
      obtain ⟨zs7015, hz7016, hr7017, hi7018⟩ := id ho6881
      obtain ⟨g7019, hg7020⟩ := gxIdx_fst hz7016 hy7014
      obtain ⟨y7022, hy7022, hm⟩ := gx_bind hm
      obtain ⟨g7023, hg7024⟩ := gxIdx_fst hz7016 hy7022
      refine G_sub [(0, .slice p6254 x6252.length c6255), (2, .int .i64 s6867.1), (8, .slice p6877 s6867.2.length c6878), (10, .int .i64 out6962), (76, .bool (decide (out6962 < 0)))] (by kernel_rfl) ?_
      refine G_dagL 13 [[], [], [], [], [2, 3], [4], [5], [6], [], [], [8, 9], [10], [11]] [[], [], [], [], [], [], [], [], [], [], [], [], []] [[], [], [], [], [], [], [], [], [], [], [], [], []] [[], [], [], [], [], [], [], [], [], [], [], [], []] [[], [], [], [], [], [], [], [], [], [], [], [], []] [[], [], [], [], [], [], [], [], [], [], [], [], []] (fun _ => []) (fun i => ([fun f v s => v = (.slice p6877 s6867.2.length c6878 : Value) ∧ s = [], fun f v s => v = (.int .i64 out6962 : Value) ∧ s = [], fun f v s => v = (.slice p6877 s6867.2.length c6878 : Value) ∧ s = [], fun f v s => v = (.int .i64 out6962 : Value) ∧ s = [], fun f v s => v = (elemP p6877 (out6962.toNat * 3) : Value) ∧ s = [], fun f v s => v = (elemP p6877 (out6962.toNat * 3 + 1) : Value) ∧ s = [], fun f v s => v = (.int .i64 y7014.Goal : Value) ∧ s = [], fun f v s => v = (.int .i64 (w64 (y7014.Goal + 1)) : Value) ∧ s = [], fun f v s => v = (.slice p6877 s6867.2.length c6878 : Value) ∧ s = [], fun f v s => v = (.int .i64 out6962 : Value) ∧ s = [], fun f v s => v = (elemP p6877 (out6962.toNat * 3) : Value) ∧ s = [], fun f v s => v = (elemP p6877 (out6962.toNat * 3 + 2) : Value) ∧ s = [], fun f v s => v = (.slice ((g7023 0).1) y7022.Gave.length ((g7023 0).2) : Value) ∧ s = []] : List ((Nat → Value) → Value → Seg → Prop)).getD i (fun _ _ _ => False)) (fun j f v => ∃ s, (fun i => ([fun f v s => v = (.slice p6877 s6867.2.length c6878 : Value) ∧ s = [], fun f v s => v = (.int .i64 out6962 : Value) ∧ s = [], fun f v s => v = (.slice p6877 s6867.2.length c6878 : Value) ∧ s = [], fun f v s => v = (.int .i64 out6962 : Value) ∧ s = [], fun f v s => v = (elemP p6877 (out6962.toNat * 3) : Value) ∧ s = [], fun f v s => v = (elemP p6877 (out6962.toNat * 3 + 1) : Value) ∧ s = [], fun f v s => v = (.int .i64 y7014.Goal : Value) ∧ s = [], fun f v s => v = (.int .i64 (w64 (y7014.Goal + 1)) : Value) ∧ s = [], fun f v s => v = (.slice p6877 s6867.2.length c6878 : Value) ∧ s = [], fun f v s => v = (.int .i64 out6962 : Value) ∧ s = [], fun f v s => v = (elemP p6877 (out6962.toNat * 3) : Value) ∧ s = [], fun f v s => v = (elemP p6877 (out6962.toNat * 3 + 2) : Value) ∧ s = [], fun f v s => v = (.slice ((g7023 0).1) y7022.Gave.length ((g7023 0).2) : Value) ∧ s = []] : List ((Nat → Value) → Value → Seg → Prop)).getD i (fun _ _ _ => False)) j f v s) [] [0, 1, 7, 12] [] (fun _ _ _ s h => ⟨s, h⟩) (by kernel_rfl) (by kernel_rfl) (M7000.preNil 13) (by kernel_rfl) (by kernel_rfl) (by kernel_rfl) (by kernel_rfl) (allOb_cons ?_ (allOb_cons ?_ (allOb_cons ?_ (allOb_cons ?_ (allOb_cons ?_ (allOb_cons ?_ (allOb_cons ?_ (allOb_cons ?_ (allOb_cons ?_ (allOb_cons ?_ (allOb_cons ?_ (allOb_cons ?_ (allOb_cons ?_ allOb_nil))))))))))))) ?_
      · intro g7012 f7013
        intro R w7026 M7027
        refine W_run 1 [(78, .slice p6877 s6867.2.length c6878)] w7026 (by kernel_rfl) ?_
        exact W_nil (ob_end (.slice p6877 s6867.2.length c6878) [] rfl (by kernel_rfl) ⟨by kernel_rfl, rfl⟩ M7027)
      · intro g7012 f7013
        intro R w7030 M7031
        refine W_run 1 [(79, .int .i64 out6962)] w7030 (by kernel_rfl) ?_
        exact W_nil (ob_end (.int .i64 out6962) [] rfl (by kernel_rfl) ⟨by kernel_rfl, rfl⟩ M7031)
      · intro g7012 f7013
        intro R w7034 M7035
        refine W_run 1 [(80, .slice p6877 s6867.2.length c6878)] w7034 (by kernel_rfl) ?_
        exact W_nil (ob_end (.slice p6877 s6867.2.length c6878) [] rfl (by kernel_rfl) ⟨by kernel_rfl, rfl⟩ M7035)
      · intro g7012 f7013
        intro R w7038 M7039
        refine W_run 1 [(81, .int .i64 out6962)] w7038 (by kernel_rfl) ?_
        exact W_nil (ob_end (.int .i64 out6962) [] rfl (by kernel_rfl) ⟨by kernel_rfl, rfl⟩ M7039)
      · intro g7012 f7013
        intro v2_ hb2_
        obtain ⟨rfl, _⟩ := hb2_
        intro v3_ hb3_
        obtain ⟨rfl, _⟩ := hb3_
        intro R w7042 M7043
        refine W_val (elemP p6877 (out6962.toNat * 3)) w7042 (by kernel_rfl) (E_index (E := deepBalloon.E) _ _ _ s6867.2.length c6878 .i64 out6962 3 (y := (y7014, g7019)) rfl (by kernel_rfl) (by kernel_rfl) (by kernel_rfl) (hr7017.rd M7043 0 (by kernel_rfl)) (len_fst hz7016) hg7020) ?_
        exact W_nil (ob_end (elemP p6877 (out6962.toNat * 3)) [] rfl (by kernel_rfl) ⟨by kernel_rfl, rfl⟩ M7043)
      · intro g7012 f7013
        intro v4_ hb4_
        obtain ⟨rfl, _⟩ := hb4_
        intro R w7046 M7047
        refine W_val (elemP p6877 (out6962.toNat * 3 + 1)) w7046 (by kernel_rfl) (E_fieldE (E := deepBalloon.E) _ _ 1 (out6962.toNat * 3) 1 rfl (by kernel_rfl) (by kernel_rfl) (hr7017.rd M7047 0 (by kernel_rfl)) hg7020) ?_
        exact W_nil (ob_end (elemP p6877 (out6962.toNat * 3 + 1)) [] rfl (by kernel_rfl) ⟨by kernel_rfl, rfl⟩ M7047)
      · intro g7012 f7013
        intro v5_ hb5_
        obtain ⟨rfl, _⟩ := hb5_
        intro R w7050 M7051
        refine W_val (.int .i64 y7014.Goal) w7050 (by kernel_rfl) (E_loadE (E := deepBalloon.E) _ _ false 1 out6962 1 (out6962.toNat * 3 + 1) (y7014, g7019) (.int .i64 y7014.Goal) rfl (by kernel_rfl) (by kernel_rfl) (by kernel_rfl) (hr7017.rd M7051 0 (by kernel_rfl)) hg7020 rfl) ?_
        exact W_nil (ob_end (.int .i64 y7014.Goal) [] rfl (by kernel_rfl) ⟨by kernel_rfl, rfl⟩ M7051)
      · intro g7012 f7013
        intro v6_ hb6_
        obtain ⟨rfl, _⟩ := hb6_
        intro R w7054 M7055
        refine W_run 1 [(85, .int .i64 (w64 (y7014.Goal + 1)))] w7054 (by kernel_rfl) ?_
        exact W_nil (ob_end (.int .i64 (w64 (y7014.Goal + 1))) [] rfl (by kernel_rfl) ⟨by kernel_rfl, rfl⟩ M7055)
      · intro g7012 f7013
        intro R w7058 M7059
        refine W_run 1 [(86, .slice p6877 s6867.2.length c6878)] w7058 (by kernel_rfl) ?_
        exact W_nil (ob_end (.slice p6877 s6867.2.length c6878) [] rfl (by kernel_rfl) ⟨by kernel_rfl, rfl⟩ M7059)
      · intro g7012 f7013
        intro R w7062 M7063
        refine W_run 1 [(87, .int .i64 out6962)] w7062 (by kernel_rfl) ?_
        exact W_nil (ob_end (.int .i64 out6962) [] rfl (by kernel_rfl) ⟨by kernel_rfl, rfl⟩ M7063)
      · intro g7012 f7013
        intro v8_ hb8_
        obtain ⟨rfl, _⟩ := hb8_
        intro v9_ hb9_
        obtain ⟨rfl, _⟩ := hb9_
        intro R w7066 M7067
        refine W_val (elemP p6877 (out6962.toNat * 3)) w7066 (by kernel_rfl) (E_index (E := deepBalloon.E) _ _ _ s6867.2.length c6878 .i64 out6962 3 (y := (y7022, g7023)) rfl (by kernel_rfl) (by kernel_rfl) (by kernel_rfl) (hr7017.rd M7067 0 (by kernel_rfl)) (len_fst hz7016) hg7024) ?_
        exact W_nil (ob_end (elemP p6877 (out6962.toNat * 3)) [] rfl (by kernel_rfl) ⟨by kernel_rfl, rfl⟩ M7067)
      · intro g7012 f7013
        intro v10_ hb10_
        obtain ⟨rfl, _⟩ := hb10_
        intro R w7070 M7071
        refine W_val (elemP p6877 (out6962.toNat * 3 + 2)) w7070 (by kernel_rfl) (E_fieldE (E := deepBalloon.E) _ _ 2 (out6962.toNat * 3) 2 rfl (by kernel_rfl) (by kernel_rfl) (hr7017.rd M7071 0 (by kernel_rfl)) hg7024) ?_
        exact W_nil (ob_end (elemP p6877 (out6962.toNat * 3 + 2)) [] rfl (by kernel_rfl) ⟨by kernel_rfl, rfl⟩ M7071)
      · intro g7012 f7013
        intro v11_ hb11_
        obtain ⟨rfl, _⟩ := hb11_
        intro R w7074 M7075
        refine W_val (.slice ((g7023 0).1) y7022.Gave.length ((g7023 0).2)) w7074 (by kernel_rfl) (E_loadE (E := deepBalloon.E) _ _ false 1 out6962 2 (out6962.toNat * 3 + 2) (y7022, g7023) (.slice ((g7023 0).1) y7022.Gave.length ((g7023 0).2)) rfl (by kernel_rfl) (by kernel_rfl) (by kernel_rfl) (hr7017.rd M7075 0 (by kernel_rfl)) hg7024 rfl) ?_
        exact W_nil (ob_end (.slice ((g7023 0).1) y7022.Gave.length ((g7023 0).2)) [] rfl (by kernel_rfl) ⟨by kernel_rfl, rfl⟩ M7075)
      intro g7012 f7013
      intro v0_ hb0_
      obtain ⟨rfl, _⟩ := hb0_
      intro v1_ hb1_
      obtain ⟨rfl, _⟩ := hb1_
      intro v7_ hb7_
      obtain ⟨rfl, _⟩ := hb7_
      intro v12_ hb12_
      obtain ⟨rfl, _⟩ := hb12_
      intro w7078 M7079
      have M7080 : Mem [] w w7078 [sg6879, sg6880] := M7079
      obtain ⟨r7081, hr7081, hm⟩ := gx_bind hm
      refine W_call 58 #[.slice p6877 s6867.2.length c6878, .int .i64 out6962, .int .i64 (w64 (y7014.Goal + 1)), .slice ((g7023 0).1) y7022.Gave.length ((g7023 0).2)] (by kernel_rfl) (by kernel_rfl) ?_
      refine (c_s_l18With w7078 s6867.2 p6877 c6878 (ho6881.rd M7080 0 (by kernel_rfl) 1 (by kernel_rfl)) out6962 (w64 (y7014.Goal + 1)) y7022.Gave ((g7023 0).1) ((g7023 0).2) ((hi7018.rd M7080 1 (by kernel_rfl)).at_ hg7024 0 ⟨Int, Gx.encI, y7022.Gave, (g7023 0).1, (g7023 0).2⟩ (by kernel_rfl)) hr7081).mono ?_
      rintro e_ w7088 ⟨p7083, c7084, sg7085, sg7086, rfl, ho7087, K7089⟩
      have M7090 := M7080.call K7089
      refine ⟨_, rfl, ?_⟩
      refine W_run 1 [(0, .slice p6254 x6252.length c6255), (2, .int .i64 s6867.1), (8, .slice p7083 r7081.length c7084)] w7088 (by kernel_rfl) ?_
      refine W_nil ?_
      refine N_block ?_
      refine N_then ?_
      refine G_region ?_
      refine W_run 3 [(0, .slice p6254 x6252.length c6255), (2, .int .i64 (w64 (s6867.1 - 1))), (8, .slice p7083 r7081.length c7084)] w7088 (by kernel_rfl) ?_
      refine W_nil ?_
      obtain rfl := Option.some.inj hm
      exact N_loop fun a ha => ⟨_, rfl, p7083, c7084, sg7085, sg7086, ho7087, M7090.pick [2, 3] (by kernel_rfl), ha.sub (by kernel_rfl)⟩
    refine G_cond_f (b := (decide (s6867.1 > 0))) hc6890 (by kernel_rfl) ?_
    refine G_exit ?_
    refine N_then_exit ?_
    refine N_then_exit ?_
    refine N_block_eq ?_
    obtain rfl := Option.some.inj hm
    obtain rfl := hout6869 _ rfl
    exact N_meet fun a ha => ⟨_, p6877, c6878, sg6879, sg6880, ho6881, rfl, M6872.pick [0, 1] (by kernel_rfl), ha.sub (by kernel_rfl)⟩
  intro a7091 w7092 ⟨o6883, p6884, c6885, sg6886, sg6887, ho6888, hout_, M7093, hS7094⟩
  refine N_use hS7094 ?_
  subst hout_
  have hm := hmo6876; simp only [Sum.elim_inl] at hm
  refine N_then ?_
  refine G_seq ?_
  refine G_region ?_
  refine W_run 3 [(6, .slice p6884 o6883.length c6885), (7, .bool true)] w7092 (by kernel_rfl) ?_
  refine W_nil ?_
  refine N_then ?_
  refine G_ret ?_
  obtain rfl := Option.some.inj hm
  refine N_ret [.slice p6884 o6883.length c6885, .bool true] (RVs_cons (RV_tmp (by kernel_rfl)) (RVs_cons (RV_tmp (by kernel_rfl)) RVs_nil)) ?_
  exact ⟨p6884, c6885, sg6886, sg6887, rfl, ho6888, M7093.pick [0, 1] (by kernel_rfl)⟩
theorem c_i_framesOf (w : World) (x7217 : List Int) (p7219 : Option Addr) (c7220 : Nat) (h7221 : rdS Gx.encI w x7217 p7219 c7220) (x7222 : Int) {r : (List Int)} (hm : M.i_framesOf x7217 x7222 = some r) :
    Calls Try.prog 66 #[.slice p7219 x7217.length c7220, .int .i64 x7222] w fun e w' => ∃ (p7224 : Option Addr) (c7225 : Nat) (sg7226 : Seg), e = .returned (.slice p7224 r.length c7225) ∧ ownS Gx.encI r p7224 c7225 sg7226 ∧ Mem [] w w' [sg7226] := by
  unfold M.i_framesOf at hm
  refine C_enter Try.func66 rfl (by kernel_rfl) ?_
  have M0 := Mem.refl [] w
  refine G_seq ?_
  refine G_region ?_
  refine W_run 1 [(0, .slice p7219 x7217.length c7220), (1, .int .i64 x7222)] w (by kernel_rfl) ?_
  refine W_nil ?_
  refine N_then ?_
  refine G_seq ?_
  refine G_region ?_
  refine W_lit (E := Gx.encI) ([] : List Int) 0 [] 3 M0 (by kernel_rfl) (by kernel_rfl) (by kernel_rfl) (by kernel_rfl) (by kernel_rfl) ?_
  intro p7228 c7229 sg7230 w7231 ho7232 M7233
  refine W_run 1 [(0, .slice p7219 x7217.length c7220), (1, .int .i64 x7222), (5, .slice p7228 ([] : List Int).length c7229)] w7231 (by kernel_rfl) ?_
  refine W_nil ?_
  refine N_then ?_
  refine G_seq ?_
  refine G_seq ?_
  refine G_region ?_
  refine W_run 3 [(1, .int .i64 x7222), (5, .slice p7228 ([] : List Int).length c7229), (9, .slice p7219 x7217.length c7220), (10, .int .i64 (x7217.length : Int)), (11, .int .i64 0)] w7231 (by kernel_rfl) ?_
  refine W_nil ?_
  refine N_then ?_
  obtain ⟨out7339, hw7340, hmo7341⟩ := gx_bind hm
  refine G_meet (fun a w' => ∃ (p7348 : Option Addr), ∃ (c7349 : Nat), ∃ (sg7350 : Seg), ownS Gx.encI out7339 p7348 c7349 sg7350 ∧ Mem [] w w' [sg7350] ∧ Sat Try.f66.ntmps [(5, .slice p7348 out7339.length c7349)] a) ?_ ?_
  · refine G_block ?_
    refine G_while (σ := List Int × Int) (ρ := List Int) (fun s7332 a w' => ∃ (p7342 : Option Addr), ∃ (c7343 : Nat), ∃ (sg7344 : Seg), ownS Gx.encI s7332.1 p7342 c7343 sg7344 ∧ Mem [] w w' [sg7344] ∧ Sat Try.f66.ntmps [(1, .int .i64 x7222), (5, .slice p7342 s7332.1.length c7343), (9, .slice p7219 x7217.length c7220), (10, .int .i64 (x7217.length : Int)), (11, .int .i64 s7332.2)] a) hw7340 (fun a ha => ⟨p7228, c7229, sg7230, ho7232, M7233.pick [0] (by kernel_rfl), ha.sub (by kernel_rfl)⟩) ?_
    clear hm
    intro s7332 x7333 hm hout7334 a7335 w7336 ⟨p7342, c7343, sg7344, ho7345, M7337, hS7338⟩
    refine G_use hS7338 ?_
    refine G_seq ?_
    refine G_region ?_
    refine W_run 1 [(1, .int .i64 x7222), (5, .slice p7342 s7332.1.length c7343), (9, .slice p7219 x7217.length c7220), (10, .int .i64 (x7217.length : Int)), (11, .int .i64 s7332.2), (12, .bool (decide (s7332.2 < (x7217.length : Int))))] w7336 (by kernel_rfl) ?_
    refine W_nil ?_
    refine N_then ?_
    refine G_seq ?_
    rcases gx_bif hm with ⟨hc7353, hm⟩ | ⟨hc7353, hm⟩
    · refine G_cond_t (b := (decide (s7332.2 < (x7217.length : Int)))) hc7353 (by kernel_rfl) ?_
      refine G_skip ?_
      refine N_then ?_
      refine G_seq ?_
      refine G_block ?_
      refine G_seq ?_
      refine G_region ?_
      refine W_run 1 [(1, .int .i64 x7222), (5, .slice p7342 s7332.1.length c7343), (9, .slice p7219 x7217.length c7220), (10, .int .i64 (x7217.length : Int)), (11, .int .i64 s7332.2), (13, .int .i64 s7332.2)] w7336 (by kernel_rfl) ?_
      obtain ⟨y7354, hy7354, hm⟩ := gx_bind hm
      refine W_val (elemP p7219 (s7332.2.toNat * 1)) w7336 (by kernel_rfl) (E_index (E := Gx.encI) _ _ _ x7217.length c7220 .i64 s7332.2 1 (y := y7354) rfl (by kernel_rfl) (by kernel_rfl) (by kernel_rfl) (h7221.mem0 M7337) rfl hy7354) ?_
      refine W_val (.int .i64 y7354) w7336 (by kernel_rfl) (E_loadE (E := Gx.encI) _ _ false 1 s7332.2 0 (s7332.2.toNat * 1) y7354 (.int .i64 y7354) rfl (by kernel_rfl) (by kernel_rfl) (by kernel_rfl) (h7221.mem0 M7337) hy7354 rfl) ?_
      refine W_run 2 [(1, .int .i64 x7222), (5, .slice p7342 s7332.1.length c7343), (6, .int .i64 s7332.2), (7, .int .i64 y7354), (9, .slice p7219 x7217.length c7220), (10, .int .i64 (x7217.length : Int)), (11, .int .i64 s7332.2)] w7336 (by kernel_rfl) ?_
      refine W_nil ?_
      refine N_then ?_
      refine G_seq ?_
      refine G_region ?_
      refine W_run 3 [(1, .int .i64 x7222), (5, .slice p7342 s7332.1.length c7343), (6, .int .i64 s7332.2), (9, .slice p7219 x7217.length c7220), (10, .int .i64 (x7217.length : Int)), (11, .int .i64 s7332.2), (18, .bool (y7354 == x7222))] w7336 (by kernel_rfl) ?_
      refine W_nil ?_
      refine N_then ?_
      obtain ⟨o7371, ho7372, hm7373⟩ := gx_bind hm
      refine G_meet (fun a w' => ∃ (p7374 : Option Addr), ∃ (c7375 : Nat), ∃ (sg7376 : Seg), ownS Gx.encI o7371 p7374 c7375 sg7376 ∧ Mem [] w w' [sg7376] ∧ Sat Try.f66.ntmps [(1, .int .i64 x7222), (5, .slice p7374 o7371.length c7375), (9, .slice p7219 x7217.length c7220), (10, .int .i64 (x7217.length : Int)), (11, .int .i64 s7332.2)] a) ?_ ?_
      · have hm := ho7372
        rcases gx_bif hm with ⟨hc7379, hm⟩ | ⟨hc7379, hm⟩
        · refine G_cond_t (b := (y7354 == x7222)) hc7379 (by kernel_rfl) ?_
          refine G_region ?_
          refine W_run 2 [(1, .int .i64 x7222), (5, .slice p7342 s7332.1.length c7343), (9, .slice p7219 x7217.length c7220), (10, .int .i64 (x7217.length : Int)), (11, .int .i64 s7332.2), (19, .slice p7342 s7332.1.length c7343), (20, .int .i64 s7332.2)] w7336 (by kernel_rfl) ?_
          refine W_lit (E := Gx.encI) [s7332.2] 1 [.int .i64 s7332.2] 3 M7337 (by kernel_rfl) (by kernel_rfl) (by kernel_rfl) (by kernel_rfl) (by kernel_rfl) ?_
          intro p7380 c7381 sg7382 w7383 ho7384 M7385
          obtain ⟨ap7387, hap7387, hm⟩ := gx_bind hm
          refine W_append (E := Gx.encI) _ _ _ 8 [.int .i64 0] 0 c7381 M7385 ho7345 (by kernel_rfl) (by kernel_rfl) (by kernel_rfl) rfl (by kernel_rfl) (by kernel_rfl) (by kernel_rfl) (by kernel_rfl) (by kernel_rfl) (by kernel_rfl) (ho7384.rd M7385 1 (by kernel_rfl)) hap7387 ?_
          intro p7388 c7389 sg7390 w7391 ho7392 M7393
          refine W_run 1 [(1, .int .i64 x7222), (5, .slice p7388 ap7387.length c7389), (9, .slice p7219 x7217.length c7220), (10, .int .i64 (x7217.length : Int)), (11, .int .i64 s7332.2)] w7391 (by kernel_rfl) ?_
          refine W_nil ?_
          obtain rfl := Option.some.inj hm
          exact N_meet fun a ha => ⟨p7388, c7389, sg7390, ho7392, M7393.pick [0] (by kernel_rfl), ha.sub (by kernel_rfl)⟩
        refine G_cond_f (b := (y7354 == x7222)) hc7379 (by kernel_rfl) ?_
        refine G_skip ?_
        obtain rfl := Option.some.inj hm
        exact N_meet fun a ha => ⟨p7342, c7343, sg7344, ho7345, M7337.pick [0] (by kernel_rfl), ha.sub (by kernel_rfl)⟩
      intro a7397 w7395 ⟨p7374, c7375, sg7376, ho7377, M7396, hS7398⟩
      refine N_use hS7398 ?_
      have hm := hm7373
      refine N_block ?_
      refine N_then ?_
      refine G_region ?_
      refine W_run 2 [(1, .int .i64 x7222), (5, .slice p7374 o7371.length c7375), (9, .slice p7219 x7217.length c7220), (10, .int .i64 (x7217.length : Int)), (11, .int .i64 (w64 (s7332.2 + 1)))] w7395 (by kernel_rfl) ?_
      refine W_nil ?_
      obtain rfl := Option.some.inj hm
      exact N_loop fun a ha => ⟨_, rfl, p7374, c7375, sg7376, ho7377, M7396.pick [0] (by kernel_rfl), ha.sub (by kernel_rfl)⟩
    refine G_cond_f (b := (decide (s7332.2 < (x7217.length : Int)))) hc7353 (by kernel_rfl) ?_
    refine G_exit ?_
    refine N_then_exit ?_
    refine N_then_exit ?_
    refine N_block_eq ?_
    obtain rfl := Option.some.inj hm
    obtain rfl := hout7334 _ rfl
    exact N_meet fun a ha => ⟨p7342, c7343, sg7344, ho7345, M7337.pick [0] (by kernel_rfl), ha.sub (by kernel_rfl)⟩
  intro a7399 w7400 ⟨p7348, c7349, sg7350, ho7351, M7401, hS7402⟩
  refine N_use hS7402 ?_
  have hm := hmo7341
  refine N_then ?_
  refine G_seq ?_
  refine G_region ?_
  refine W_run 2 [(4, .slice p7348 out7339.length c7349)] w7400 (by kernel_rfl) ?_
  refine W_nil ?_
  refine N_then ?_
  refine G_ret ?_
  obtain rfl := Option.some.inj hm
  refine N_ret [.slice p7348 out7339.length c7349] (RVs_cons (RV_tmp (by kernel_rfl)) RVs_nil) ?_
  exact ⟨p7348, c7349, sg7350, rfl, ho7351, M7401.pick [0] (by kernel_rfl)⟩
theorem c_slices_Max_67 (w : World) (x7709 : List Int) (p7711 : Option Addr) (c7712 : Nat) (h7713 : rdS Gx.encI w x7709 p7711 c7712) {r : Int} (hm : M.slices_Max_67 x7709 = some r) :
    Calls Try.prog 67 #[.slice p7711 x7709.length c7712] w fun e w' => e = .returned (.int .i64 r) ∧ Mem [] w w' [] := by
  unfold M.slices_Max_67 at hm
  refine C_enter Try.func67 rfl (by kernel_rfl) ?_
  have M0 := Mem.refl [] w
  refine G_seq ?_
  refine G_region ?_
  refine W_run 1 [(0, .slice p7711 x7709.length c7712)] w (by kernel_rfl) ?_
  refine W_nil ?_
  refine N_then ?_
  refine G_seq ?_
  refine G_seq ?_
  refine G_region ?_
  refine W_run 3 [(0, .slice p7711 x7709.length c7712), (7, .bool (decide ((x7709.length : Int) < 1)))] w (by kernel_rfl) ?_
  refine W_nil ?_
  refine N_then ?_
  rcases gx_bif hm with ⟨hc7714, hm⟩ | ⟨hc7714, hm⟩
  · refine G_cond_t (b := (decide ((x7709.length : Int) < 1))) hc7714 (by kernel_rfl) ?_
    cases hm
  refine G_cond_f (b := (decide ((x7709.length : Int) < 1))) hc7714 (by kernel_rfl) ?_
  refine G_skip ?_
  refine N_then ?_
  refine G_seq ?_
  refine G_region ?_
  refine W_run 1 [(0, .slice p7711 x7709.length c7712), (9, .slice p7711 x7709.length c7712)] w (by kernel_rfl) ?_
  obtain ⟨y7715, hy7715, hm⟩ := gx_bind hm
  refine W_val (elemP p7711 ((0 : Int).toNat * 1)) w (by kernel_rfl) (E_index (E := Gx.encI) _ _ _ x7709.length c7712 .i64 0 1 (y := y7715) rfl (by kernel_rfl) (by kernel_rfl) (by kernel_rfl) (h7713.mem0 M0) rfl hy7715) ?_
  refine W_val (.int .i64 y7715) w (by kernel_rfl) (E_loadE (E := Gx.encI) _ _ false 1 0 0 ((0 : Int).toNat * 1) y7715 (.int .i64 y7715) rfl (by kernel_rfl) (by kernel_rfl) (by kernel_rfl) (h7713.mem0 M0) hy7715 rfl) ?_
  refine W_run 1 [(0, .slice p7711 x7709.length c7712), (3, .int .i64 y7715)] w (by kernel_rfl) ?_
  refine W_nil ?_
  refine N_then ?_
  refine G_seq ?_
  refine G_seq ?_
  refine G_region ?_
  refine W_run 1 [(0, .slice p7711 x7709.length c7712), (3, .int .i64 y7715), (4, .int .i64 1)] w (by kernel_rfl) ?_
  refine W_nil ?_
  refine N_then ?_
  obtain ⟨out7727, hw7728, hmo7729⟩ := gx_bind hm
  refine G_meet (fun a w' => Mem [] w w' [] ∧ Sat Try.f67.ntmps [(3, .int .i64 out7727)] a) ?_ ?_
  · refine G_block ?_
    refine G_while (σ := Int × Int) (ρ := Int) (fun s7720 a w' => Mem [] w w' [] ∧ Sat Try.f67.ntmps [(0, .slice p7711 x7709.length c7712), (3, .int .i64 s7720.1), (4, .int .i64 s7720.2)] a) hw7728 (fun a ha => ⟨M0.pick [] (by kernel_rfl), ha.sub (by kernel_rfl)⟩) ?_
    clear hm
    intro s7720 x7721 hm hout7722 a7723 w7724 ⟨M7725, hS7726⟩
    refine G_use hS7726 ?_
    refine G_seq ?_
    refine G_seq ?_
    refine G_region ?_
    refine W_run 4 [(0, .slice p7711 x7709.length c7712), (3, .int .i64 s7720.1), (4, .int .i64 s7720.2), (15, .bool (decide (s7720.2 < (x7709.length : Int))))] w7724 (by kernel_rfl) ?_
    refine W_nil ?_
    refine N_then ?_
    rcases gx_bif hm with ⟨hc7731, hm⟩ | ⟨hc7731, hm⟩
    · refine G_cond_t (b := (decide (s7720.2 < (x7709.length : Int)))) hc7731 (by kernel_rfl) ?_
      refine G_skip ?_
      refine N_then ?_
      refine G_seq ?_
      refine G_block ?_
      refine G_region ?_
      refine W_run 3 [(0, .slice p7711 x7709.length c7712), (3, .int .i64 s7720.1), (4, .int .i64 s7720.2), (18, .int .i64 s7720.1), (19, .slice p7711 x7709.length c7712), (20, .int .i64 s7720.2)] w7724 (by kernel_rfl) ?_
      obtain ⟨y7732, hy7732, hm⟩ := gx_bind hm
      refine W_val (elemP p7711 (s7720.2.toNat * 1)) w7724 (by kernel_rfl) (E_index (E := Gx.encI) _ _ _ x7709.length c7712 .i64 s7720.2 1 (y := y7732) rfl (by kernel_rfl) (by kernel_rfl) (by kernel_rfl) (h7713.mem0 M7725) rfl hy7732) ?_
      refine W_val (.int .i64 y7732) w7724 (by kernel_rfl) (E_loadE (E := Gx.encI) _ _ false 1 s7720.2 0 (s7720.2.toNat * 1) y7732 (.int .i64 y7732) rfl (by kernel_rfl) (by kernel_rfl) (by kernel_rfl) (h7713.mem0 M7725) hy7732 rfl) ?_
      refine W_run 2 [(0, .slice p7711 x7709.length c7712), (3, .int .i64 (gxMax s7720.1 y7732)), (4, .int .i64 s7720.2)] w7724 (by kernel_rfl) ?_
      refine W_nil ?_
      refine N_block ?_
      refine N_then ?_
      refine G_region ?_
      refine W_run 3 [(0, .slice p7711 x7709.length c7712), (3, .int .i64 (gxMax s7720.1 y7732)), (4, .int .i64 (w64 (s7720.2 + 1)))] w7724 (by kernel_rfl) ?_
      refine W_nil ?_
      obtain rfl := Option.some.inj hm
      exact N_loop fun a ha => ⟨_, rfl, M7725.pick [] (by kernel_rfl), ha.sub (by kernel_rfl)⟩
    refine G_cond_f (b := (decide (s7720.2 < (x7709.length : Int)))) hc7731 (by kernel_rfl) ?_
    refine G_exit ?_
    refine N_then_exit ?_
    refine N_then_exit ?_
    refine N_block_eq ?_
    obtain rfl := Option.some.inj hm
    obtain rfl := hout7722 _ rfl
    exact N_meet fun a ha => ⟨M7725.pick [] (by kernel_rfl), ha.sub (by kernel_rfl)⟩
  intro a7733 w7734 ⟨M7735, hS7736⟩
  refine N_use hS7736 ?_
  have hm := hmo7729
  refine N_then ?_
  refine G_seq ?_
  refine G_region ?_
  refine W_run 2 [(2, .int .i64 out7727)] w7734 (by kernel_rfl) ?_
  refine W_nil ?_
  refine N_then ?_
  refine G_ret ?_
  obtain rfl := Option.some.inj hm
  refine N_ret [.int .i64 out7727] (RVs_cons (RV_tmp (by kernel_rfl)) RVs_nil) ?_
  exact ⟨rfl, M7735.pick [] (by kernel_rfl)⟩
theorem c_i_ShareGoals (w : World) (x7124 : List Int) (p7126 : Option Addr) (c7127 : Nat) (h7128 : rdS Gx.encI w x7124 p7126 c7127) (x7129 : List Balloon) (p7131 : Option Addr) (c7132 : Nat) (h7133 : rdD deepBalloon w x7129 p7131 c7132) (x7134 : Int) {r : (List Balloon) × Bool} (hm : M.i_ShareGoals x7124 x7129 x7134 = some r) :
    Calls Try.prog 31 #[.slice p7126 x7124.length c7127, .slice p7131 x7129.length c7132, .int .i64 x7134] w fun e w' => ∃ (p7136 : Option Addr) (c7137 : Nat) (sg7138 : Seg) (sg7139 : Seg), e = .returned (.tuple #[.slice p7136 r.1.length c7137, .bool r.2]) ∧ ownD deepBalloon r.1 p7136 c7137 sg7138 sg7139 ∧ Mem [] w w' [sg7138, sg7139] := by
  unfold M.i_ShareGoals at hm
  refine C_enter Try.func31 rfl (by kernel_rfl) ?_
  have M0 := Mem.refl [] w
  refine G_seq ?_
  refine G_region ?_
  refine W_run 2 [(0, .slice p7126 x7124.length c7127), (1, .slice p7131 x7129.length c7132), (2, .int .i64 x7134)] w (by kernel_rfl) ?_
  refine W_nil ?_
  refine N_then ?_
  refine G_seq ?_
  refine G_seq ?_
  obtain ⟨o7150, ho7151, hm7152⟩ := gx_bind hm
  refine G_meet (fun a w' => Mem [] w w' [] ∧ Sat Try.f31.ntmps [(0, .slice p7126 x7124.length c7127), (1, .slice p7131 x7129.length c7132), (2, .int .i64 x7134), (21, .bool o7150)] a) ?_ ?_
  · have hm := ho7151
    refine G_region ?_
    refine W_run 2 [(0, .slice p7126 x7124.length c7127), (1, .slice p7131 x7129.length c7132), (2, .int .i64 x7134), (13, .slice p7126 x7124.length c7127), (14, .slice p7131 x7129.length c7132)] w (by kernel_rfl) ?_
    obtain ⟨r7153, hr7153, hm⟩ := gx_bind hm
    refine W_call 17 #[.slice p7126 x7124.length c7127, .slice p7131 x7129.length c7132] (by kernel_rfl) (by kernel_rfl) ?_
    refine (c_i_AreBalloons w x7124 p7126 c7127 (h7128.mem0 M0) x7129 p7131 c7132 (h7133.mem0 M0) hr7153).mono ?_
    rintro e_ w7154 ⟨rfl, K7155⟩
    have M7156 := M0.call0 K7155
    refine ⟨_, rfl, ?_⟩
    refine W_run 2 [(0, .slice p7126 x7124.length c7127), (1, .slice p7131 x7129.length c7132), (2, .int .i64 x7134), (17, .bool (!r7153))] w7154 (by kernel_rfl) ?_
    rcases gx_bif hm with ⟨hc7157, hm⟩ | ⟨hc7157, hm⟩
    · refine W_known 17 true (by kernel_rfl) hc7157 ?_
      refine W_run 4 [(0, .slice p7126 x7124.length c7127), (1, .slice p7131 x7129.length c7132), (2, .int .i64 x7134), (21, .bool true)] w7154 (by kernel_rfl) ?_
      refine W_nil ?_
      obtain rfl := Option.some.inj hm
      exact N_meet fun a ha => ⟨M7156.pick [] (by kernel_rfl), ha.sub (by kernel_rfl)⟩
    refine W_known 17 false (by kernel_rfl) hc7157 ?_
    refine W_run 1 [(0, .slice p7126 x7124.length c7127), (1, .slice p7131 x7129.length c7132), (2, .int .i64 x7134), (17, .bool false), (18, .int .i64 x7134)] w7154 (by kernel_rfl) ?_
    obtain ⟨r7158, hr7158, hm⟩ := gx_bind hm
    refine W_call 51 #[.int .i64 x7134] (by kernel_rfl) (by kernel_rfl) ?_
    refine (c_i_isGoal w7154 x7134 hr7158).mono ?_
    rintro e_ w7159 ⟨rfl, K7160⟩
    have M7161 := M7156.call0 K7160
    refine ⟨_, rfl, ?_⟩
    refine W_run 2 [(0, .slice p7126 x7124.length c7127), (1, .slice p7131 x7129.length c7132), (2, .int .i64 x7134), (21, .bool (!r7158))] w7159 (by kernel_rfl) ?_
    refine W_nil ?_
    obtain rfl := Option.some.inj hm
    exact N_meet fun a ha => ⟨M7161.pick [] (by kernel_rfl), ha.sub (by kernel_rfl)⟩
  intro a7164 w7162 ⟨M7163, hS7165⟩
  refine N_use hS7165 ?_
  have hm := hm7152
  refine N_then ?_
  rcases gx_bif hm with ⟨hc7166, hm⟩ | ⟨hc7166, hm⟩
  · refine G_cond_t (b := o7150) hc7166 (by kernel_rfl) ?_
    refine G_seq ?_
    refine G_region ?_
    refine W_run 2 [(6, .slice none 0 0), (7, .bool false)] w7162 (by kernel_rfl) ?_
    refine W_nil ?_
    refine N_then ?_
    refine G_ret ?_
    refine N_then_ret ?_
    obtain rfl := Option.some.inj hm
    refine N_ret [.slice none 0 0, .bool false] (RVs_cons (RV_tmp (by kernel_rfl)) (RVs_cons (RV_tmp (by kernel_rfl)) RVs_nil)) ?_
    exact ⟨none, 0, [], [], rfl, ownD_nil, M7163.pick [100000, 100001] (by kernel_rfl)⟩
  refine G_cond_f (b := o7150) hc7166 (by kernel_rfl) ?_
  refine G_skip ?_
  refine N_then ?_
  refine G_seq ?_
  refine G_region ?_
  refine W_run 1 [(0, .slice p7126 x7124.length c7127), (1, .slice p7131 x7129.length c7132), (2, .int .i64 x7134), (22, .slice p7131 x7129.length c7132)] w7162 (by kernel_rfl) ?_
  obtain ⟨r7168, hr7168, hm⟩ := gx_bind hm
  refine W_call 60 #[.slice p7131 x7129.length c7132] (by kernel_rfl) (by kernel_rfl) ?_
  refine (c_i_newBalloons w7162 x7129 p7131 c7132 (h7133.mem0 M7163) hr7168).mono ?_
  rintro e_ w7175 ⟨p7170, c7171, sg7172, sg7173, rfl, ho7174, K7176⟩
  have M7177 := M7163.call K7176
  refine ⟨_, rfl, ?_⟩
  refine W_lit (E := Gx.encI) ([] : List Int) 0 [] 3 M7177 (by kernel_rfl) (by kernel_rfl) (by kernel_rfl) (by kernel_rfl) (by kernel_rfl) ?_
  intro p7178 c7179 sg7180 w7181 ho7182 M7183
  refine W_run 2 [(0, .slice p7126 x7124.length c7127), (1, .slice p7131 x7129.length c7132), (2, .int .i64 x7134), (8, .slice p7170 r7168.length c7171), (9, .slice p7178 ([] : List Int).length c7179)] w7181 (by kernel_rfl) ?_
  refine W_nil ?_
  refine N_then ?_
  refine G_seq ?_
  refine G_seq ?_
  refine G_region ?_
  refine W_run 3 [(0, .slice p7126 x7124.length c7127), (2, .int .i64 x7134), (8, .slice p7170 r7168.length c7171), (9, .slice p7178 ([] : List Int).length c7179), (25, .slice p7131 x7129.length c7132), (26, .int .i64 (x7129.length : Int)), (27, .int .i64 0)] w7181 (by kernel_rfl) ?_
  refine W_nil ?_
  refine N_then ?_
  obtain ⟨out7584, hw7585, hmo7586⟩ := gx_bind hm
  refine G_meet (fun a w' => ∃ (p7596 : Option Addr), ∃ (c7597 : Nat), ∃ (sg7598 : Seg), ∃ (sg7601 : Seg), ∃ (sg7602 : Seg), ownS Gx.encI out7584.1 p7596 c7597 sg7598 ∧ ownD deepBalloon out7584.2 p7170 c7171 sg7601 sg7602 ∧ Mem [] w w' [sg7598, sg7601, sg7602] ∧ Sat Try.f31.ntmps [(2, .int .i64 x7134), (8, .slice p7170 out7584.2.length c7171), (9, .slice p7596 out7584.1.length c7597)] a) ?_ ?_
  · refine G_block ?_
    refine G_while (σ := List Int × Int × List Balloon) (ρ := List Int × List Balloon) (fun s7577 a w' => ∃ (p7587 : Option Addr), ∃ (c7588 : Nat), ∃ (sg7589 : Seg), ∃ (sg7592 : Seg), ∃ (sg7593 : Seg), ownS Gx.encI s7577.1 p7587 c7588 sg7589 ∧ ownD deepBalloon s7577.2.2 p7170 c7171 sg7592 sg7593 ∧ Mem [] w w' [sg7589, sg7592, sg7593] ∧ Sat Try.f31.ntmps [(0, .slice p7126 x7124.length c7127), (2, .int .i64 x7134), (8, .slice p7170 s7577.2.2.length c7171), (9, .slice p7587 s7577.1.length c7588), (25, .slice p7131 x7129.length c7132), (26, .int .i64 (x7129.length : Int)), (27, .int .i64 s7577.2.1)] a) hw7585 (fun a ha => ⟨p7178, c7179, sg7180, sg7172, sg7173, ho7182, ho7174, M7183.pick [2, 0, 1] (by kernel_rfl), ha.sub (by kernel_rfl)⟩) ?_
    clear hm
    intro s7577 x7578 hm hout7579 a7580 w7581 ⟨p7587, c7588, sg7589, sg7592, sg7593, ho7590, ho7594, M7582, hS7583⟩
    refine G_use hS7583 ?_
    refine G_seq ?_
    refine G_region ?_
    refine W_run 1 [(0, .slice p7126 x7124.length c7127), (2, .int .i64 x7134), (8, .slice p7170 s7577.2.2.length c7171), (9, .slice p7587 s7577.1.length c7588), (25, .slice p7131 x7129.length c7132), (26, .int .i64 (x7129.length : Int)), (27, .int .i64 s7577.2.1), (28, .bool (decide (s7577.2.1 < (x7129.length : Int))))] w7581 (by kernel_rfl) ?_
    refine W_nil ?_
    refine N_then ?_
    refine G_seq ?_
    rcases gx_bif hm with ⟨hc7604, hm⟩ | ⟨hc7604, hm⟩
    · refine G_cond_t (b := (decide (s7577.2.1 < (x7129.length : Int)))) hc7604 (by kernel_rfl) ?_
      refine G_skip ?_
      refine N_then ?_
      refine G_seq ?_
      refine G_block ?_
      refine G_seq ?_
      refine G_region ?_
      refine W_run 1 [(0, .slice p7126 x7124.length c7127), (2, .int .i64 x7134), (8, .slice p7170 s7577.2.2.length c7171), (9, .slice p7587 s7577.1.length c7588), (25, .slice p7131 x7129.length c7132), (26, .int .i64 (x7129.length : Int)), (27, .int .i64 s7577.2.1), (29, .int .i64 s7577.2.1)] w7581 (by kernel_rfl) ?_
      obtain ⟨y7605, hy7605, hm⟩ := gx_bind hm
      obtain ⟨zs7606, hz7607, hr7608, hi7609⟩ := id h7133
      obtain ⟨g7610, hg7611⟩ := gxIdx_fst hz7607 hy7605
      refine W_val (elemP p7131 (s7577.2.1.toNat * 3)) w7581 (by kernel_rfl) (E_index (E := deepBalloon.E) _ _ _ x7129.length c7132 .i64 s7577.2.1 3 (y := (y7605, g7610)) rfl (by kernel_rfl) (by kernel_rfl) (by kernel_rfl) (hr7608.mem0 M7582) (len_fst hz7607) hg7611) ?_
      refine W_val (.agg #[.int .i64 y7605.Guest, .int .i64 y7605.Goal, .slice ((g7610 0).1) y7605.Gave.length ((g7610 0).2)]) w7581 (by kernel_rfl) (E_loadE (E := deepBalloon.E) _ _ true 3 s7577.2.1 0 (s7577.2.1.toNat * 3) (y7605, g7610) (.agg #[.int .i64 y7605.Guest, .int .i64 y7605.Goal, .slice ((g7610 0).1) y7605.Gave.length ((g7610 0).2)]) rfl (by kernel_rfl) (by kernel_rfl) (by kernel_rfl) (hr7608.mem0 M7582) hg7611 rfl) ?_
      refine W_new (fun b => .pointer (some ⟨b, 0, none⟩)) (.cells ⟨[.int .i64 0, .int .i64 0, .slice none 0 0]⟩ 50 (0, 0)) M7582 rfl (by kernel_rfl) (by kernel_rfl) ?_
      intro b7615 w7616 M7617
      refine W_run 1 [(0, .slice p7126 x7124.length c7127), (2, .int .i64 x7134), (8, .slice p7170 s7577.2.2.length c7171), (9, .slice p7587 s7577.1.length c7588), (10, .int .i64 s7577.2.1), (11, .pointer (some ⟨b7615, 0, none⟩)), (25, .slice p7131 x7129.length c7132), (26, .int .i64 (x7129.length : Int)), (27, .int .i64 s7577.2.1), (31, .agg #[.int .i64 y7605.Guest, .int .i64 y7605.Goal, .slice ((g7610 0).1) y7605.Gave.length ((g7610 0).2)])] w7616 (by kernel_rfl) ?_
      refine W_store _ _ _ true 3 b7615 0 [.int .i64 0, .int .i64 0, .slice none 0 0] 50 (.agg #[.int .i64 y7605.Guest, .int .i64 y7605.Goal, .slice ((g7610 0).1) y7605.Gave.length ((g7610 0).2)]) 3 [.int .i64 y7605.Guest, .int .i64 y7605.Goal, .slice ((g7610 0).1) y7605.Gave.length ((g7610 0).2)] M7617 (by kernel_rfl) rfl (by kernel_rfl) (by kernel_rfl) (by kernel_rfl) (by kernel_rfl) (by kernel_rfl) (by kernel_rfl) (by kernel_rfl) (by kernel_rfl) ?_
      intro w7618 M7619
      refine W_nil ?_
      refine N_then ?_
      refine G_seq ?_
      refine G_region ?_
      refine W_run 2 [(0, .slice p7126 x7124.length c7127), (2, .int .i64 x7134), (8, .slice p7170 s7577.2.2.length c7171), (9, .slice p7587 s7577.1.length c7588), (11, .pointer (some ⟨b7615, 0, none⟩)), (25, .slice p7131 x7129.length c7132), (26, .int .i64 (x7129.length : Int)), (27, .int .i64 s7577.2.1), (32, .slice p7170 s7577.2.2.length c7171), (33, .int .i64 s7577.2.1)] w7618 (by kernel_rfl) ?_
      obtain ⟨y7620, hy7620, hm⟩ := gx_bind hm
      obtain ⟨zs7621, hz7622, hr7623, hi7624⟩ := id ho7594
      obtain ⟨g7625, hg7626⟩ := gxIdx_fst hz7622 hy7620
      refine W_val (elemP p7170 (s7577.2.1.toNat * 3)) w7618 (by kernel_rfl) (E_index (E := deepBalloon.E) _ _ _ s7577.2.2.length c7171 .i64 s7577.2.1 3 (y := (y7620, g7625)) rfl (by kernel_rfl) (by kernel_rfl) (by kernel_rfl) (hr7623.rd M7619 1 (by kernel_rfl)) (len_fst hz7622) hg7626) ?_
      refine W_val (elemP p7170 (s7577.2.1.toNat * 3 + 1)) w7618 (by kernel_rfl) (E_fieldE (E := deepBalloon.E) _ _ 1 (s7577.2.1.toNat * 3) 1 rfl (by kernel_rfl) (by kernel_rfl) (hr7623.rd M7619 1 (by kernel_rfl)) hg7626) ?_
      refine W_storeE (E := deepBalloon.E) _ _ _ false 1 s7577.2.1.toNat 1 (s7577.2.1.toNat * 3 + 1) (y7620, g7625) ((⟨y7620.Guest, 0, y7620.Gave⟩ : Balloon), g7625) (.int .i64 0) 1 M7619 hr7623 (by kernel_rfl) (by kernel_rfl) rfl (by kernel_rfl) (by kernel_rfl) (by kernel_rfl) (by kernel_rfl) (by kernel_rfl) (by kernel_rfl) (by kernel_rfl) (gxIdx_spec hg7626).2 rfl ?_
      intro w7628 sg7630 ho7631 M7629
      have ho7632 : ownD deepBalloon (s7577.2.2.set s7577.2.1.toNat (⟨y7620.Guest, 0, y7620.Gave⟩ : Balloon)) p7170 c7171 sg7630 sg7593 := ⟨_, set_fst hz7622 s7577.2.1.toNat ((⟨y7620.Guest, 0, y7620.Gave⟩ : Balloon), g7625), ho7631, (by rw [flatMap_setSame (gxIdx_spec hg7626).2 (by kernel_rfl)]; exact hi7624)⟩
      have hput7633 := gxIdx_put (⟨y7620.Guest, 0, y7620.Gave⟩ : Balloon) (gxIdx_down hz7622 hg7626)
      refine W_conv 8 (.slice p7170 s7577.2.2.length c7171) (.slice p7170 (s7577.2.2.set s7577.2.1.toNat (⟨y7620.Guest, 0, y7620.Gave⟩ : Balloon)).length c7171) (by kernel_rfl) (by rw [@List.length_set _ s7577.2.2 s7577.2.1.toNat (⟨y7620.Guest, 0, y7620.Gave⟩ : Balloon)]) ?_
      refine W_conv 32 (.slice p7170 s7577.2.2.length c7171) (.slice p7170 (s7577.2.2.set s7577.2.1.toNat (⟨y7620.Guest, 0, y7620.Gave⟩ : Balloon)).length c7171) (by kernel_rfl) (by rw [@List.length_set _ s7577.2.2 s7577.2.1.toNat (⟨y7620.Guest, 0, y7620.Gave⟩ : Balloon)]) ?_
      refine W_nil ?_
      refine N_then ?_
      obtain ⟨r7636, hr7636, hm⟩ := gx_bind hm
      refine G_sub [(0, .slice p7126 x7124.length c7127), (2, .int .i64 x7134), (8, .slice p7170 (s7577.2.2.set s7577.2.1.toNat (⟨y7620.Guest, 0, y7620.Gave⟩ : Balloon)).length c7171), (9, .slice p7587 s7577.1.length c7588), (11, .pointer (some ⟨b7615, 0, none⟩)), (25, .slice p7131 x7129.length c7132), (26, .int .i64 (x7129.length : Int)), (27, .int .i64 s7577.2.1), (32, .slice p7170 (s7577.2.2.set s7577.2.1.toNat (⟨y7620.Guest, 0, y7620.Gave⟩ : Balloon)).length c7171), (33, .int .i64 s7577.2.1), (34, elemP p7170 (s7577.2.1.toNat * 3)), (35, elemP p7170 (s7577.2.1.toNat * 3 + 1))] (by kernel_rfl) ?_
      refine G_dagL 11 [[], [], [], [2], [1, 3], [], [], [6], [7], [5, 8], [9]] [[], [], [], [], [], [], [], [], [], [], []] [[], [], [], [], [], [], [], [], [], [], []] [[], [], [], [], [], [4], [], [], [], [], []] [[], [], [], [], [], [], [], [], [], [], []] [[], [], [], [], [], [], [], [], [], [], []] (fun _ => []) (fun i => ([fun f v s => v = (.slice p7587 s7577.1.length c7588 : Value) ∧ s = [], fun f v s => v = (.slice p7126 x7124.length c7127 : Value) ∧ s = [], fun f v s => v = (.pointer (some ⟨b7615, 0, none⟩) : Value) ∧ s = [], fun f v s => v = (.int .i64 y7605.Guest : Value) ∧ s = [], fun f v s => ∃ (p7638 : Option Addr) (c7639 : Nat), v = (.slice p7638 r7636.length c7639 : Value) ∧ ownS Gx.encI r7636 p7638 c7639 s, fun f v s => v = (.int .i64 (r7636.length : Int) : Value) ∧ s = [], fun f v s => v = (.pointer (some ⟨b7615, 2, none⟩) : Value) ∧ s = [], fun f v s => v = (.slice ((g7610 0).1) y7605.Gave.length ((g7610 0).2) : Value) ∧ s = [], fun f v s => v = (.int .i64 (y7605.Gave.length : Int) : Value) ∧ s = [], fun f v s => v = (.int .i64 (w64 ((r7636.length : Int) + (y7605.Gave.length : Int))) : Value) ∧ s = [], fun f v s => ∃ (p7643 : Option Addr) (c7644 : Nat), v = (.slice p7643 [w64 ((r7636.length : Int) + (y7605.Gave.length : Int))].length c7644 : Value) ∧ ownS Gx.encI [w64 ((r7636.length : Int) + (y7605.Gave.length : Int))] p7643 c7644 s] : List ((Nat → Value) → Value → Seg → Prop)).getD i (fun _ _ _ => False)) (fun j f v => ∃ s, (fun i => ([fun f v s => v = (.slice p7587 s7577.1.length c7588 : Value) ∧ s = [], fun f v s => v = (.slice p7126 x7124.length c7127 : Value) ∧ s = [], fun f v s => v = (.pointer (some ⟨b7615, 0, none⟩) : Value) ∧ s = [], fun f v s => v = (.int .i64 y7605.Guest : Value) ∧ s = [], fun f v s => ∃ (p7638 : Option Addr) (c7639 : Nat), v = (.slice p7638 r7636.length c7639 : Value) ∧ ownS Gx.encI r7636 p7638 c7639 s, fun f v s => v = (.int .i64 (r7636.length : Int) : Value) ∧ s = [], fun f v s => v = (.pointer (some ⟨b7615, 2, none⟩) : Value) ∧ s = [], fun f v s => v = (.slice ((g7610 0).1) y7605.Gave.length ((g7610 0).2) : Value) ∧ s = [], fun f v s => v = (.int .i64 (y7605.Gave.length : Int) : Value) ∧ s = [], fun f v s => v = (.int .i64 (w64 ((r7636.length : Int) + (y7605.Gave.length : Int))) : Value) ∧ s = [], fun f v s => ∃ (p7643 : Option Addr) (c7644 : Nat), v = (.slice p7643 [w64 ((r7636.length : Int) + (y7605.Gave.length : Int))].length c7644 : Value) ∧ ownS Gx.encI [w64 ((r7636.length : Int) + (y7605.Gave.length : Int))] p7643 c7644 s] : List ((Nat → Value) → Value → Seg → Prop)).getD i (fun _ _ _ => False)) j f v s) [] [0, 4, 10] [4, 10] (fun _ _ _ s h => ⟨s, h⟩) (by kernel_rfl) (by kernel_rfl) (M7629.preNil 11) (by kernel_rfl) (by kernel_rfl) (by kernel_rfl) (by kernel_rfl) (allOb_cons ?_ (allOb_cons ?_ (allOb_cons ?_ (allOb_cons ?_ (allOb_cons ?_ (allOb_cons ?_ (allOb_cons ?_ (allOb_cons ?_ (allOb_cons ?_ (allOb_cons ?_ (allOb_cons ?_ allOb_nil))))))))))) ?_
      · intro g7634 f7635
        intro R w7647 M7648
        refine W_run 1 [(36, .slice p7587 s7577.1.length c7588)] w7647 (by kernel_rfl) ?_
        exact W_nil (ob_end (.slice p7587 s7577.1.length c7588) [] rfl (by kernel_rfl) ⟨by kernel_rfl, rfl⟩ M7648)
      · intro g7634 f7635
        intro R w7651 M7652
        refine W_run 1 [(37, .slice p7126 x7124.length c7127)] w7651 (by kernel_rfl) ?_
        exact W_nil (ob_end (.slice p7126 x7124.length c7127) [] rfl (by kernel_rfl) ⟨by kernel_rfl, rfl⟩ M7652)
      · intro g7634 f7635
        intro R w7655 M7656
        refine W_run 1 [(38, .pointer (some ⟨b7615, 0, none⟩))] w7655 (by kernel_rfl) ?_
        exact W_nil (ob_end (.pointer (some ⟨b7615, 0, none⟩)) [] rfl (by kernel_rfl) ⟨by kernel_rfl, rfl⟩ M7656)
      · intro g7634 f7635
        intro v2_ hb2_
        obtain ⟨rfl, _⟩ := hb2_
        intro R w7659 M7660
        refine W_val (.int .i64 y7605.Guest) w7659 (by kernel_rfl) (E_load (e := 50) (fr := (0, 0)) _ _ false 1 b7615 0 [.int .i64 y7605.Guest, .int .i64 y7605.Goal, .slice ((g7610 0).1) y7605.Gave.length ((g7610 0).2)] (.int .i64 y7605.Guest) rfl (by kernel_rfl) (by kernel_rfl) (by kernel_rfl) (M7660.blk 3 (b := b7615) (o := .cells ⟨[.int .i64 y7605.Guest, .int .i64 y7605.Goal, .slice ((g7610 0).1) y7605.Gave.length ((g7610 0).2)]⟩ 50 (0, 0)) (by kernel_rfl))) ?_
        exact W_nil (ob_end (.int .i64 y7605.Guest) [] rfl (by kernel_rfl) ⟨by kernel_rfl, rfl⟩ M7660)
      · intro g7634 f7635
        intro v1_ hb1_
        obtain ⟨rfl, _⟩ := hb1_
        intro v3_ hb3_
        obtain ⟨rfl, _⟩ := hb3_
        intro R w7663 M7664
        refine W_call 66 #[.slice p7126 x7124.length c7127, .int .i64 y7605.Guest] (by kernel_rfl) (by kernel_rfl) ?_
        refine (c_i_framesOf w7663 x7124 p7126 c7127 (h7128.mem0 M7664) y7605.Guest hr7636).mono ?_
        rintro e_ w7665 ⟨p7638, c7639, sg7640, rfl, ho7641, K7667⟩
        refine ⟨_, rfl, ?_⟩
        exact W_nil (ob_end (.slice p7638 r7636.length c7639) sg7640 rfl (by kernel_rfl) ⟨p7638, c7639, rfl, ho7641⟩ (Mem.callMid M7664 K7667))
      · intro g7634 f7635
        intro v4_ hb4_
        obtain ⟨_, p7638, c7639, rfl, _⟩ := hb4_
        intro R w7668 M7669
        refine W_run 1 [(41, .int .i64 (r7636.length : Int))] w7668 (by kernel_rfl) ?_
        exact W_nil (ob_end (.int .i64 (r7636.length : Int)) [] rfl (by kernel_rfl) ⟨by kernel_rfl, rfl⟩ M7669)
      · intro g7634 f7635
        intro R w7672 M7673
        refine W_run 1 [(42, .pointer (some ⟨b7615, 2, none⟩))] w7672 (by kernel_rfl) ?_
        exact W_nil (ob_end (.pointer (some ⟨b7615, 2, none⟩)) [] rfl (by kernel_rfl) ⟨by kernel_rfl, rfl⟩ M7673)
      · intro g7634 f7635
        intro v6_ hb6_
        obtain ⟨rfl, _⟩ := hb6_
        intro R w7676 M7677
        refine W_val (.slice ((g7610 0).1) y7605.Gave.length ((g7610 0).2)) w7676 (by kernel_rfl) (E_load (e := 50) (fr := (0, 0)) _ _ false 1 b7615 2 [.int .i64 y7605.Guest, .int .i64 y7605.Goal, .slice ((g7610 0).1) y7605.Gave.length ((g7610 0).2)] (.slice ((g7610 0).1) y7605.Gave.length ((g7610 0).2)) rfl (by kernel_rfl) (by kernel_rfl) (by kernel_rfl) (M7677.blk 3 (b := b7615) (o := .cells ⟨[.int .i64 y7605.Guest, .int .i64 y7605.Goal, .slice ((g7610 0).1) y7605.Gave.length ((g7610 0).2)]⟩ 50 (0, 0)) (by kernel_rfl))) ?_
        exact W_nil (ob_end (.slice ((g7610 0).1) y7605.Gave.length ((g7610 0).2)) [] rfl (by kernel_rfl) ⟨by kernel_rfl, rfl⟩ M7677)
      · intro g7634 f7635
        intro v7_ hb7_
        obtain ⟨rfl, _⟩ := hb7_
        intro R w7680 M7681
        refine W_run 1 [(44, .int .i64 (y7605.Gave.length : Int))] w7680 (by kernel_rfl) ?_
        exact W_nil (ob_end (.int .i64 (y7605.Gave.length : Int)) [] rfl (by kernel_rfl) ⟨by kernel_rfl, rfl⟩ M7681)
      · intro g7634 f7635
        intro v5_ hb5_
        obtain ⟨rfl, _⟩ := hb5_
        intro v8_ hb8_
        obtain ⟨rfl, _⟩ := hb8_
        intro R w7684 M7685
        refine W_run 1 [(45, .int .i64 (w64 ((r7636.length : Int) + (y7605.Gave.length : Int))))] w7684 (by kernel_rfl) ?_
        exact W_nil (ob_end (.int .i64 (w64 ((r7636.length : Int) + (y7605.Gave.length : Int)))) [] rfl (by kernel_rfl) ⟨by kernel_rfl, rfl⟩ M7685)
      · intro g7634 f7635
        intro v9_ hb9_
        obtain ⟨rfl, _⟩ := hb9_
        intro R w7688 M7689
        refine W_lit (E := Gx.encI) [w64 ((r7636.length : Int) + (y7605.Gave.length : Int))] 1 [.int .i64 (w64 ((r7636.length : Int) + (y7605.Gave.length : Int)))] 3 M7689 (by kernel_rfl) (by kernel_rfl) (by kernel_rfl) (by kernel_rfl) (by kernel_rfl) ?_
        intro p7643 c7644 sg7645 w7690 ho7646 M7691
        exact W_nil (ob_end (.slice p7643 [w64 ((r7636.length : Int) + (y7605.Gave.length : Int))].length c7644) sg7645 rfl (by kernel_rfl) ⟨p7643, c7644, rfl, ho7646⟩ (Mem.mid M7691))
      intro g7634 f7635
      intro v0_ hb0_
      obtain ⟨rfl, _⟩ := hb0_
      intro v4_ hb4_
      obtain ⟨p7638, c7639, rfl, ho7641⟩ := hb4_
      intro v10_ hb10_
      obtain ⟨p7643, c7644, rfl, ho7646⟩ := hb10_
      intro w7692 M7693
      have M7694 : Mem [] w w7692 [sg7589, sg7630, sg7593, [(b7615, .cells ⟨[.int .i64 y7605.Guest, .int .i64 y7605.Goal, .slice ((g7610 0).1) y7605.Gave.length ((g7610 0).2)]⟩ 50 (0, 0))], (g7634 4), (g7634 10)] := M7693
      obtain ⟨ap7695, hap7695, hm⟩ := gx_bind hm
      refine W_append (E := Gx.encI) _ _ _ 8 [.int .i64 0] 0 c7644 M7694 ho7590 (by kernel_rfl) (by kernel_rfl) (by kernel_rfl) rfl (by kernel_rfl) (by kernel_rfl) (by kernel_rfl) (by kernel_rfl) (by kernel_rfl) (by kernel_rfl) (ho7646.rd M7694 5 (by kernel_rfl)) hap7695 ?_
      intro p7696 c7697 sg7698 w7699 ho7700 M7701
      refine W_run 1 [(0, .slice p7126 x7124.length c7127), (2, .int .i64 x7134), (8, .slice p7170 (s7577.2.2.set s7577.2.1.toNat (⟨y7620.Guest, 0, y7620.Gave⟩ : Balloon)).length c7171), (9, .slice p7696 ap7695.length c7697), (25, .slice p7131 x7129.length c7132), (26, .int .i64 (x7129.length : Int)), (27, .int .i64 s7577.2.1)] w7699 (by kernel_rfl) ?_
      refine W_nil ?_
      refine N_block ?_
      refine N_then ?_
      refine G_region ?_
      refine W_run 2 [(0, .slice p7126 x7124.length c7127), (2, .int .i64 x7134), (8, .slice p7170 (s7577.2.2.set s7577.2.1.toNat (⟨y7620.Guest, 0, y7620.Gave⟩ : Balloon)).length c7171), (9, .slice p7696 ap7695.length c7697), (25, .slice p7131 x7129.length c7132), (26, .int .i64 (x7129.length : Int)), (27, .int .i64 (w64 (s7577.2.1 + 1)))] w7699 (by kernel_rfl) ?_
      refine W_nil ?_
      obtain rfl := Option.some.inj hm
      exact N_loop fun a ha => ⟨_, rfl, p7696, c7697, sg7698, sg7630, sg7593, ho7700, ho7632, M7701.pick [0, 1, 2] (by kernel_rfl), ha.sub (by kernel_rfl)⟩
    refine G_cond_f (b := (decide (s7577.2.1 < (x7129.length : Int)))) hc7604 (by kernel_rfl) ?_
    refine G_exit ?_
    refine N_then_exit ?_
    refine N_then_exit ?_
    refine N_block_eq ?_
    obtain rfl := Option.some.inj hm
    obtain rfl := hout7579 _ rfl
    exact N_meet fun a ha => ⟨p7587, c7588, sg7589, sg7592, sg7593, ho7590, ho7594, M7582.pick [0, 1, 2] (by kernel_rfl), ha.sub (by kernel_rfl)⟩
  intro a7703 w7704 ⟨p7596, c7597, sg7598, sg7601, sg7602, ho7599, ho7603, M7705, hS7706⟩
  refine N_use hS7706 ?_
  have hm := hmo7586
  refine N_then ?_
  refine G_seq ?_
  refine G_seq ?_
  refine G_region ?_
  refine W_run 2 [(8, .slice p7170 out7584.2.length c7171), (9, .slice p7596 out7584.1.length c7597), (49, .int .i64 x7134), (50, .int .i64 0)] w7704 (by kernel_rfl) ?_
  refine W_nil ?_
  refine N_then ?_
  obtain ⟨out7851, hw7852, hmo7853⟩ := gx_bind hm
  refine G_meet (fun a w' => ∃ (o7859 : List Balloon × List Int), ∃ (sg7860 : Seg), ∃ (sg7861 : Seg), ∃ (sg7863 : Seg), ownD deepBalloon o7859.1 p7170 c7171 sg7860 sg7861 ∧ ownS Gx.encI o7859.2 p7596 c7597 sg7863 ∧ out7851 = .inl o7859 ∧ Mem [] w w' [sg7860, sg7861] ∧ Sat Try.f31.ntmps [(8, .slice p7170 o7859.1.length c7171)] a) ?_ ?_
  · refine G_block ?_
    refine G_while (σ := Int × List Balloon × List Int) (ρ := (List Balloon × List Int) ⊕ ((List Balloon) × Bool)) (fun s7844 a w' => ∃ (sg7854 : Seg), ∃ (sg7855 : Seg), ∃ (sg7857 : Seg), ownD deepBalloon s7844.2.1 p7170 c7171 sg7854 sg7855 ∧ ownS Gx.encI s7844.2.2 p7596 c7597 sg7857 ∧ Mem [] w w' [sg7854, sg7855, sg7857] ∧ Sat Try.f31.ntmps [(8, .slice p7170 s7844.2.1.length c7171), (9, .slice p7596 s7844.2.2.length c7597), (49, .int .i64 x7134), (50, .int .i64 s7844.1)] a) hw7852 (fun a ha => ⟨sg7601, sg7602, sg7598, ho7603, ho7599, M7705.pick [1, 2, 0] (by kernel_rfl), ha.sub (by kernel_rfl)⟩) ?_
    clear hm
    intro s7844 x7845 hm hout7846 a7847 w7848 ⟨sg7854, sg7855, sg7857, ho7856, ho7858, M7849, hS7850⟩
    refine G_use hS7850 ?_
    refine G_seq ?_
    refine G_region ?_
    refine W_run 1 [(8, .slice p7170 s7844.2.1.length c7171), (9, .slice p7596 s7844.2.2.length c7597), (49, .int .i64 x7134), (50, .int .i64 s7844.1), (51, .bool (decide (s7844.1 < x7134)))] w7848 (by kernel_rfl) ?_
    refine W_nil ?_
    refine N_then ?_
    refine G_seq ?_
    rcases gx_bif hm with ⟨hc7865, hm⟩ | ⟨hc7865, hm⟩
    · refine G_cond_t (b := (decide (s7844.1 < x7134))) hc7865 (by kernel_rfl) ?_
      refine G_skip ?_
      refine N_then ?_
      refine G_seq ?_
      refine G_block ?_
      refine G_seq ?_
      refine G_seq ?_
      obtain ⟨o7871, ho7872, hm7873⟩ := gx_bind hm
      refine G_meet (fun a w' => Mem [] w w' [sg7854, sg7855, sg7857] ∧ Sat Try.f31.ntmps [(8, .slice p7170 s7844.2.1.length c7171), (9, .slice p7596 s7844.2.2.length c7597), (49, .int .i64 x7134), (50, .int .i64 s7844.1), (59, .bool o7871)] a) ?_ ?_
      · have hm := ho7872
        refine G_region ?_
        refine W_run 4 [(8, .slice p7170 s7844.2.1.length c7171), (9, .slice p7596 s7844.2.2.length c7597), (49, .int .i64 x7134), (50, .int .i64 s7844.1), (55, .bool ((s7844.2.2.length : Int) == 0))] w7848 (by kernel_rfl) ?_
        rcases gx_bif hm with ⟨hc7874, hm⟩ | ⟨hc7874, hm⟩
        · refine W_known 55 true (by kernel_rfl) hc7874 ?_
          refine W_run 4 [(8, .slice p7170 s7844.2.1.length c7171), (9, .slice p7596 s7844.2.2.length c7597), (49, .int .i64 x7134), (50, .int .i64 s7844.1), (59, .bool true)] w7848 (by kernel_rfl) ?_
          refine W_nil ?_
          obtain rfl := Option.some.inj hm
          exact N_meet fun a ha => ⟨M7849.pick [0, 1, 2] (by kernel_rfl), ha.sub (by kernel_rfl)⟩
        refine W_known 55 false (by kernel_rfl) hc7874 ?_
        refine W_run 1 [(8, .slice p7170 s7844.2.1.length c7171), (9, .slice p7596 s7844.2.2.length c7597), (49, .int .i64 x7134), (50, .int .i64 s7844.1), (55, .bool false), (56, .slice p7596 s7844.2.2.length c7597)] w7848 (by kernel_rfl) ?_
        obtain ⟨r7875, hr7875, hm⟩ := gx_bind hm
        refine W_call 67 #[.slice p7596 s7844.2.2.length c7597] (by kernel_rfl) (by kernel_rfl) ?_
        refine (c_slices_Max_67 w7848 s7844.2.2 p7596 c7597 (ho7858.rd M7849 2 (by kernel_rfl)) hr7875).mono ?_
        rintro e_ w7876 ⟨rfl, K7877⟩
        have M7878 := M7849.call0 K7877
        refine ⟨_, rfl, ?_⟩
        refine W_run 2 [(8, .slice p7170 s7844.2.1.length c7171), (9, .slice p7596 s7844.2.2.length c7597), (49, .int .i64 x7134), (50, .int .i64 s7844.1), (59, .bool (decide (r7875 < 2)))] w7876 (by kernel_rfl) ?_
        refine W_nil ?_
        obtain rfl := Option.some.inj hm
        exact N_meet fun a ha => ⟨M7878.pick [0, 1, 2] (by kernel_rfl), ha.sub (by kernel_rfl)⟩
      intro a7881 w7879 ⟨M7880, hS7882⟩
      refine N_use hS7882 ?_
      have hm := hm7873
      refine N_then ?_
      rcases gx_bif hm with ⟨hc7883, hm⟩ | ⟨hc7883, hm⟩
      · refine G_cond_t (b := o7871) hc7883 (by kernel_rfl) ?_
        refine G_seq ?_
        refine G_region ?_
        refine W_run 2 [(6, .slice none 0 0), (7, .bool false)] w7879 (by kernel_rfl) ?_
        refine W_nil ?_
        refine N_then ?_
        refine G_ret ?_
        refine N_then_ret ?_
        refine N_block_ret ?_
        refine N_then_ret ?_
        refine N_then_ret ?_
        obtain rfl := Option.some.inj hm
        obtain rfl := hout7846 _ rfl
        have hm := hmo7853; simp only [Sum.elim_inr] at hm
        refine N_block_ret ?_
        refine N_meet_ret ?_
        refine N_then_ret ?_
        obtain rfl := Option.some.inj hm
        refine N_ret [.slice none 0 0, .bool false] (RVs_cons (RV_tmp (by kernel_rfl)) (RVs_cons (RV_tmp (by kernel_rfl)) RVs_nil)) ?_
        exact ⟨none, 0, [], [], rfl, ownD_nil, M7880.pick [100000, 100001] (by kernel_rfl)⟩
      refine G_cond_f (b := o7871) hc7883 (by kernel_rfl) ?_
      refine G_skip ?_
      refine N_then ?_
      refine G_seq ?_
      refine G_region ?_
      refine W_run 2 [(8, .slice p7170 s7844.2.1.length c7171), (9, .slice p7596 s7844.2.2.length c7597), (49, .int .i64 x7134), (50, .int .i64 s7844.1), (60, .slice p7596 s7844.2.2.length c7597), (61, .slice p7596 s7844.2.2.length c7597)] w7879 (by kernel_rfl) ?_
      obtain ⟨r7885, hr7885, hm⟩ := gx_bind hm
      refine W_call 67 #[.slice p7596 s7844.2.2.length c7597] (by kernel_rfl) (by kernel_rfl) ?_
      refine (c_slices_Max_67 w7879 s7844.2.2 p7596 c7597 (ho7858.rd M7880 2 (by kernel_rfl)) hr7885).mono ?_
      rintro e_ w7886 ⟨rfl, K7887⟩
      have M7888 := M7880.call0 K7887
      refine ⟨_, rfl, ?_⟩
      obtain ⟨r7889, hr7889, hm⟩ := gx_bind hm
      refine W_call 63 #[.slice p7596 s7844.2.2.length c7597, .int .i64 r7885] (by kernel_rfl) (by kernel_rfl) ?_
      refine (c_slices_Index_63 w7886 s7844.2.2 p7596 c7597 (ho7858.rd M7888 2 (by kernel_rfl)) r7885 hr7889).mono ?_
      rintro e_ w7890 ⟨rfl, K7891⟩
      have M7892 := M7888.call0 K7891
      refine ⟨_, rfl, ?_⟩
      refine W_run 1 [(8, .slice p7170 s7844.2.1.length c7171), (9, .slice p7596 s7844.2.2.length c7597), (12, .int .i64 r7889), (49, .int .i64 x7134), (50, .int .i64 s7844.1)] w7890 (by kernel_rfl) ?_
      refine W_nil ?_
      refine N_then ?_
      refine G_seq ?_
      refine G_region ?_
      refine W_run 2 [(8, .slice p7170 s7844.2.1.length c7171), (9, .slice p7596 s7844.2.2.length c7597), (12, .int .i64 r7889), (49, .int .i64 x7134), (50, .int .i64 s7844.1), (64, .slice p7596 s7844.2.2.length c7597), (65, .int .i64 r7889)] w7890 (by kernel_rfl) ?_
      obtain ⟨y7893, hy7893, hm⟩ := gx_bind hm
      refine W_val (elemP p7596 (r7889.toNat * 1)) w7890 (by kernel_rfl) (E_index (E := Gx.encI) _ _ _ s7844.2.2.length c7597 .i64 r7889 1 (y := y7893) rfl (by kernel_rfl) (by kernel_rfl) (by kernel_rfl) (ho7858.rd M7892 2 (by kernel_rfl)) rfl hy7893) ?_
      refine W_val (.int .i64 y7893) w7890 (by kernel_rfl) (E_loadE (E := Gx.encI) _ _ false 1 r7889 0 (r7889.toNat * 1) y7893 (.int .i64 y7893) rfl (by kernel_rfl) (by kernel_rfl) (by kernel_rfl) (ho7858.rd M7892 2 (by kernel_rfl)) hy7893 rfl) ?_
      refine W_run 1 [(8, .slice p7170 s7844.2.1.length c7171), (9, .slice p7596 s7844.2.2.length c7597), (12, .int .i64 r7889), (49, .int .i64 x7134), (50, .int .i64 s7844.1), (64, .slice p7596 s7844.2.2.length c7597), (65, .int .i64 r7889), (68, .int .i64 (w64 (y7893 - 1)))] w7890 (by kernel_rfl) ?_
      obtain ⟨y7894, hy7894, hm⟩ := gx_bind hm
      refine W_val (elemP p7596 (r7889.toNat * 1)) w7890 (by kernel_rfl) (E_index (E := Gx.encI) _ _ _ s7844.2.2.length c7597 .i64 r7889 1 (y := y7894) rfl (by kernel_rfl) (by kernel_rfl) (by kernel_rfl) (ho7858.rd M7892 2 (by kernel_rfl)) rfl hy7894) ?_
      refine W_storeE (E := Gx.encI) _ _ _ false 1 r7889.toNat 0 (r7889.toNat * 1) y7894 (w64 (y7893 - 1)) (.int .i64 (w64 (y7893 - 1))) 2 M7892 ho7858 (by kernel_rfl) (by kernel_rfl) rfl (by kernel_rfl) (by kernel_rfl) (by kernel_rfl) (by kernel_rfl) (by kernel_rfl) (by kernel_rfl) (by kernel_rfl) (gxIdx_spec hy7894).2 rfl ?_
      intro w7895 sg7897 ho7898 M7896
      refine W_conv 9 (.slice p7596 s7844.2.2.length c7597) (.slice p7596 (s7844.2.2.set r7889.toNat (w64 (y7893 - 1))).length c7597) (by kernel_rfl) (by rw [@List.length_set _ s7844.2.2 r7889.toNat (w64 (y7893 - 1))]) ?_
      refine W_conv 64 (.slice p7596 s7844.2.2.length c7597) (.slice p7596 (s7844.2.2.set r7889.toNat (w64 (y7893 - 1))).length c7597) (by kernel_rfl) (by rw [@List.length_set _ s7844.2.2 r7889.toNat (w64 (y7893 - 1))]) ?_
      refine W_nil ?_
      refine N_then ?_
      refine G_region ?_
      refine W_run 2 [(8, .slice p7170 s7844.2.1.length c7171), (9, .slice p7596 (s7844.2.2.set r7889.toNat (w64 (y7893 - 1))).length c7597), (49, .int .i64 x7134), (50, .int .i64 s7844.1), (70, .slice p7170 s7844.2.1.length c7171), (71, .int .i64 r7889)] w7895 (by kernel_rfl) ?_
      obtain ⟨y7899, hy7899, hm⟩ := gx_bind hm
      obtain ⟨zs7900, hz7901, hr7902, hi7903⟩ := id ho7856
      obtain ⟨g7904, hg7905⟩ := gxIdx_fst hz7901 hy7899
      refine W_val (elemP p7170 (r7889.toNat * 3)) w7895 (by kernel_rfl) (E_index (E := deepBalloon.E) _ _ _ s7844.2.1.length c7171 .i64 r7889 3 (y := (y7899, g7904)) rfl (by kernel_rfl) (by kernel_rfl) (by kernel_rfl) (hr7902.rd M7896 0 (by kernel_rfl)) (len_fst hz7901) hg7905) ?_
      refine W_val (elemP p7170 (r7889.toNat * 3 + 1)) w7895 (by kernel_rfl) (E_fieldE (E := deepBalloon.E) _ _ 1 (r7889.toNat * 3) 1 rfl (by kernel_rfl) (by kernel_rfl) (hr7902.rd M7896 0 (by kernel_rfl)) hg7905) ?_
      refine W_val (.int .i64 y7899.Goal) w7895 (by kernel_rfl) (E_loadE (E := deepBalloon.E) _ _ false 1 r7889 1 (r7889.toNat * 3 + 1) (y7899, g7904) (.int .i64 y7899.Goal) rfl (by kernel_rfl) (by kernel_rfl) (by kernel_rfl) (hr7902.rd M7896 0 (by kernel_rfl)) hg7905 rfl) ?_
      refine W_run 1 [(8, .slice p7170 s7844.2.1.length c7171), (9, .slice p7596 (s7844.2.2.set r7889.toNat (w64 (y7893 - 1))).length c7597), (49, .int .i64 x7134), (50, .int .i64 s7844.1), (70, .slice p7170 s7844.2.1.length c7171), (71, .int .i64 r7889), (75, .int .i64 (w64 (y7899.Goal + 1)))] w7895 (by kernel_rfl) ?_
      obtain ⟨y7907, hy7907, hm⟩ := gx_bind hm
      obtain ⟨g7908, hg7909⟩ := gxIdx_fst hz7901 hy7907
      refine W_val (elemP p7170 (r7889.toNat * 3)) w7895 (by kernel_rfl) (E_index (E := deepBalloon.E) _ _ _ s7844.2.1.length c7171 .i64 r7889 3 (y := (y7907, g7908)) rfl (by kernel_rfl) (by kernel_rfl) (by kernel_rfl) (hr7902.rd M7896 0 (by kernel_rfl)) (len_fst hz7901) hg7909) ?_
      refine W_val (elemP p7170 (r7889.toNat * 3 + 1)) w7895 (by kernel_rfl) (E_fieldE (E := deepBalloon.E) _ _ 1 (r7889.toNat * 3) 1 rfl (by kernel_rfl) (by kernel_rfl) (hr7902.rd M7896 0 (by kernel_rfl)) hg7909) ?_
      refine W_storeE (E := deepBalloon.E) _ _ _ false 1 r7889.toNat 1 (r7889.toNat * 3 + 1) (y7907, g7908) ((⟨y7907.Guest, w64 (y7899.Goal + 1), y7907.Gave⟩ : Balloon), g7908) (.int .i64 (w64 (y7899.Goal + 1))) 0 M7896 hr7902 (by kernel_rfl) (by kernel_rfl) rfl (by kernel_rfl) (by kernel_rfl) (by kernel_rfl) (by kernel_rfl) (by kernel_rfl) (by kernel_rfl) (by kernel_rfl) (gxIdx_spec hg7909).2 rfl ?_
      intro w7911 sg7913 ho7914 M7912
      have ho7915 : ownD deepBalloon (s7844.2.1.set r7889.toNat (⟨y7907.Guest, w64 (y7899.Goal + 1), y7907.Gave⟩ : Balloon)) p7170 c7171 sg7913 sg7855 := ⟨_, set_fst hz7901 r7889.toNat ((⟨y7907.Guest, w64 (y7899.Goal + 1), y7907.Gave⟩ : Balloon), g7908), ho7914, (by rw [flatMap_setSame (gxIdx_spec hg7909).2 (by kernel_rfl)]; exact hi7903)⟩
      have hput7916 := gxIdx_put (⟨y7907.Guest, w64 (y7899.Goal + 1), y7907.Gave⟩ : Balloon) (gxIdx_down hz7901 hg7909)
      refine W_conv 8 (.slice p7170 s7844.2.1.length c7171) (.slice p7170 (s7844.2.1.set r7889.toNat (⟨y7907.Guest, w64 (y7899.Goal + 1), y7907.Gave⟩ : Balloon)).length c7171) (by kernel_rfl) (by rw [@List.length_set _ s7844.2.1 r7889.toNat (⟨y7907.Guest, w64 (y7899.Goal + 1), y7907.Gave⟩ : Balloon)]) ?_
      refine W_conv 70 (.slice p7170 s7844.2.1.length c7171) (.slice p7170 (s7844.2.1.set r7889.toNat (⟨y7907.Guest, w64 (y7899.Goal + 1), y7907.Gave⟩ : Balloon)).length c7171) (by kernel_rfl) (by rw [@List.length_set _ s7844.2.1 r7889.toNat (⟨y7907.Guest, w64 (y7899.Goal + 1), y7907.Gave⟩ : Balloon)]) ?_
      refine W_nil ?_
      refine N_block ?_
      refine N_then ?_
      refine G_region ?_
      refine W_run 2 [(8, .slice p7170 (s7844.2.1.set r7889.toNat (⟨y7907.Guest, w64 (y7899.Goal + 1), y7907.Gave⟩ : Balloon)).length c7171), (9, .slice p7596 (s7844.2.2.set r7889.toNat (w64 (y7893 - 1))).length c7597), (49, .int .i64 x7134), (50, .int .i64 (w64 (s7844.1 + 1)))] w7911 (by kernel_rfl) ?_
      refine W_nil ?_
      obtain rfl := Option.some.inj hm
      exact N_loop fun a ha => ⟨_, rfl, sg7913, sg7855, sg7897, ho7915, ho7898, M7912.pick [0, 1, 2] (by kernel_rfl), ha.sub (by kernel_rfl)⟩
    refine G_cond_f (b := (decide (s7844.1 < x7134))) hc7865 (by kernel_rfl) ?_
    refine G_exit ?_
    refine N_then_exit ?_
    refine N_then_exit ?_
    refine N_block_eq ?_
    obtain rfl := Option.some.inj hm
    obtain rfl := hout7846 _ rfl
    exact N_meet fun a ha => ⟨_, sg7854, sg7855, sg7857, ho7856, ho7858, rfl, M7849.pick [0, 1] (by kernel_rfl), ha.sub (by kernel_rfl)⟩
  intro a7917 w7918 ⟨o7859, sg7860, sg7861, sg7863, ho7862, ho7864, hout_, M7919, hS7920⟩
  refine N_use hS7920 ?_
  subst hout_
  have hm := hmo7853; simp only [Sum.elim_inl] at hm
  refine N_then ?_
  refine G_seq ?_
  refine G_region ?_
  refine W_run 3 [(6, .slice p7170 o7859.1.length c7171), (7, .bool true)] w7918 (by kernel_rfl) ?_
  refine W_nil ?_
  refine N_then ?_
  refine G_ret ?_
  obtain rfl := Option.some.inj hm
  refine N_ret [.slice p7170 o7859.1.length c7171, .bool true] (RVs_cons (RV_tmp (by kernel_rfl)) (RVs_cons (RV_tmp (by kernel_rfl)) RVs_nil)) ?_
  exact ⟨p7170, c7171, sg7860, sg7861, rfl, ho7862, M7919.pick [0, 1] (by kernel_rfl)⟩
theorem c_l_FnExactShareGoals (w : World) (x6216 : List Int) (p6218 : Option Addr) (c6219 : Nat) (h6220 : rdS Gx.encI w x6216 p6218 c6219) (x6221 : List Balloon) (p6223 : Option Addr) (c6224 : Nat) (h6225 : rdD deepBalloon w x6221 p6223 c6224) (x6226 : Int) {r : Bool} (hm : M.l_FnExactShareGoals x6216 x6221 x6226 = some r) :
    Calls Try.prog 7 #[.slice p6218 x6216.length c6219, .slice p6223 x6221.length c6224, .int .i64 x6226] w fun e w' => e = .returned (.bool r) ∧ Mem [] w w' [] := by
  unfold M.l_FnExactShareGoals at hm
  refine C_enter Try.func7 rfl (by kernel_rfl) ?_
  have M0 := Mem.refl [] w
  refine G_seq ?_
  refine G_region ?_
  refine W_run 1 [(0, .slice p6218 x6216.length c6219), (1, .slice p6223 x6221.length c6224), (2, .int .i64 x6226)] w (by kernel_rfl) ?_
  refine W_nil ?_
  refine N_then ?_
  refine G_seq ?_
  refine G_seq ?_
  refine G_region ?_
  refine W_run 3 [(0, .slice p6218 x6216.length c6219), (1, .slice p6223 x6221.length c6224), (2, .int .i64 x6226), (21, .bool (decide ((x6216.length : Int) > 1048576)))] w (by kernel_rfl) ?_
  refine W_nil ?_
  refine N_then ?_
  rcases gx_bif hm with ⟨hc6227, hm⟩ | ⟨hc6227, hm⟩
  · refine G_cond_t (b := (decide ((x6216.length : Int) > 1048576))) hc6227 (by kernel_rfl) ?_
    refine G_seq ?_
    refine G_region ?_
    refine W_run 1 [(6, .bool true)] w (by kernel_rfl) ?_
    refine W_nil ?_
    refine N_then ?_
    refine G_ret ?_
    refine N_then_ret ?_
    obtain rfl := Option.some.inj hm
    refine N_ret [.bool true] (RVs_cons (RV_tmp (by kernel_rfl)) RVs_nil) ?_
    exact ⟨rfl, M0.pick [] (by kernel_rfl)⟩
  refine G_cond_f (b := (decide ((x6216.length : Int) > 1048576))) hc6227 (by kernel_rfl) ?_
  refine G_skip ?_
  refine N_then ?_
  refine G_seq ?_
  refine G_region ?_
  refine W_run 1 [(0, .slice p6218 x6216.length c6219), (1, .slice p6223 x6221.length c6224), (2, .int .i64 x6226), (7, .int .i64 1048576)] w (by kernel_rfl) ?_
  refine W_nil ?_
  refine N_then ?_
  refine G_seq ?_
  refine G_region ?_
  refine W_run 2 [(0, .slice p6218 x6216.length c6219), (1, .slice p6223 x6221.length c6224), (2, .int .i64 x6226), (7, .int .i64 1048576), (22, .slice p6223 x6221.length c6224), (23, .int .i64 1048576)] w (by kernel_rfl) ?_
  obtain ⟨r6228, hr6228, hm⟩ := gx_bind hm
  refine W_call 13 #[.slice p6223 x6221.length c6224, .int .i64 1048576] (by kernel_rfl) (by kernel_rfl) ?_
  refine (c_l_szBalloonS w x6221 p6223 c6224 (h6225.mem0 M0) 1048576 hr6228).mono ?_
  rintro e_ w6229 ⟨rfl, K6230⟩
  have M6231 := M0.call0 K6230
  refine ⟨_, rfl, ?_⟩
  refine W_run 1 [(0, .slice p6218 x6216.length c6219), (1, .slice p6223 x6221.length c6224), (2, .int .i64 x6226), (7, .int .i64 r6228)] w6229 (by kernel_rfl) ?_
  refine W_nil ?_
  refine N_then ?_
  refine G_seq ?_
  refine G_seq ?_
  refine G_region ?_
  refine W_run 2 [(0, .slice p6218 x6216.length c6219), (1, .slice p6223 x6221.length c6224), (2, .int .i64 x6226), (26, .bool (decide (r6228 < 0)))] w6229 (by kernel_rfl) ?_
  refine W_nil ?_
  refine N_then ?_
  rcases gx_bif hm with ⟨hc6232, hm⟩ | ⟨hc6232, hm⟩
  · refine G_cond_t (b := (decide (r6228 < 0))) hc6232 (by kernel_rfl) ?_
    refine G_seq ?_
    refine G_region ?_
    refine W_run 1 [(6, .bool true)] w6229 (by kernel_rfl) ?_
    refine W_nil ?_
    refine N_then ?_
    refine G_ret ?_
    refine N_then_ret ?_
    obtain rfl := Option.some.inj hm
    refine N_ret [.bool true] (RVs_cons (RV_tmp (by kernel_rfl)) RVs_nil) ?_
    exact ⟨rfl, M6231.pick [] (by kernel_rfl)⟩
  refine G_cond_f (b := (decide (r6228 < 0))) hc6232 (by kernel_rfl) ?_
  refine G_skip ?_
  refine N_then ?_
  refine G_seq ?_
  refine G_region ?_
  refine W_run 1 [(0, .slice p6218 x6216.length c6219), (1, .slice p6223 x6221.length c6224), (2, .int .i64 x6226), (28, .slice p6218 x6216.length c6219)] w6229 (by kernel_rfl) ?_
  obtain ⟨r6233, hr6233, hm⟩ := gx_bind hm
  refine W_call 15 #[.slice p6218 x6216.length c6219] (by kernel_rfl) (by kernel_rfl) ?_
  refine (c_l_toIntS w6229 x6216 p6218 c6219 (h6220.mem0 M6231) hr6233).mono ?_
  rintro e_ w6239 ⟨p6235, c6236, sg6237, rfl, ho6238, K6240⟩
  have M6241 := M6231.call K6240
  refine ⟨_, rfl, ?_⟩
  refine W_run 1 [(0, .slice p6218 x6216.length c6219), (1, .slice p6223 x6221.length c6224), (2, .int .i64 x6226), (29, .slice p6235 r6233.length c6236), (30, .slice p6223 x6221.length c6224)] w6239 (by kernel_rfl) ?_
  obtain ⟨r6242, hr6242, hm⟩ := gx_bind hm
  refine W_call 16 #[.slice p6223 x6221.length c6224] (by kernel_rfl) (by kernel_rfl) ?_
  refine (c_l_toBalloonS w6239 x6221 p6223 c6224 (h6225.mem0 M6241) hr6242).mono ?_
  rintro e_ w6249 ⟨p6244, c6245, sg6246, sg6247, rfl, ho6248, K6250⟩
  have M6251 := M6241.call K6250
  refine ⟨_, rfl, ?_⟩
  refine W_run 1 [(0, .slice p6218 x6216.length c6219), (1, .slice p6223 x6221.length c6224), (2, .int .i64 x6226), (29, .slice p6235 r6233.length c6236), (31, .slice p6244 r6242.length c6245), (32, .int .i64 x6226)] w6249 (by kernel_rfl) ?_
  obtain ⟨r7095, hr7095, hm⟩ := gx_bind hm
  refine W_call 30 #[.slice p6235 r6233.length c6236, .slice p6244 r6242.length c6245, .int .i64 x6226] (by kernel_rfl) (by kernel_rfl) ?_
  refine (c_s_ShareGoals w6249 r6233 p6235 c6236 (ho6238.rd M6251 0 (by kernel_rfl)) r6242 p6244 c6245 (ho6248.rd M6251 1 (by kernel_rfl) 2 (by kernel_rfl)) x6226 hr7095).mono ?_
  rintro e_ w7102 ⟨p7097, c7098, sg7099, sg7100, rfl, ho7101, K7103⟩
  have M7104 := M6251.call K7103
  refine ⟨_, rfl, ?_⟩
  refine W_run 5 [(0, .slice p6218 x6216.length c6219), (1, .slice p6223 x6221.length c6224), (2, .int .i64 x6226), (8, .slice p7097 r7095.1.length c7098), (9, .bool r7095.2)] w7102 (by kernel_rfl) ?_
  refine W_nil ?_
  refine N_then ?_
  refine G_seq ?_
  refine G_region ?_
  refine W_run 1 [(0, .slice p6218 x6216.length c6219), (1, .slice p6223 x6221.length c6224), (2, .int .i64 x6226), (8, .slice p7097 r7095.1.length c7098), (9, .bool r7095.2), (36, .slice p6218 x6216.length c6219)] w7102 (by kernel_rfl) ?_
  obtain ⟨r7105, hr7105, hm⟩ := gx_bind hm
  refine W_call 15 #[.slice p6218 x6216.length c6219] (by kernel_rfl) (by kernel_rfl) ?_
  refine (c_l_toIntS w7102 x6216 p6218 c6219 (h6220.mem0 M7104) hr7105).mono ?_
  rintro e_ w7111 ⟨p7107, c7108, sg7109, rfl, ho7110, K7112⟩
  have M7113 := M7104.call K7112
  refine ⟨_, rfl, ?_⟩
  refine W_run 1 [(0, .slice p6218 x6216.length c6219), (1, .slice p6223 x6221.length c6224), (2, .int .i64 x6226), (8, .slice p7097 r7095.1.length c7098), (9, .bool r7095.2), (10, .slice p7107 r7105.length c7108)] w7111 (by kernel_rfl) ?_
  refine W_nil ?_
  refine N_then ?_
  refine G_seq ?_
  refine G_region ?_
  refine W_run 1 [(0, .slice p6218 x6216.length c6219), (1, .slice p6223 x6221.length c6224), (2, .int .i64 x6226), (8, .slice p7097 r7095.1.length c7098), (9, .bool r7095.2), (10, .slice p7107 r7105.length c7108), (38, .slice p6223 x6221.length c6224)] w7111 (by kernel_rfl) ?_
  obtain ⟨r7114, hr7114, hm⟩ := gx_bind hm
  refine W_call 16 #[.slice p6223 x6221.length c6224] (by kernel_rfl) (by kernel_rfl) ?_
  refine (c_l_toBalloonS w7111 x6221 p6223 c6224 (h6225.mem0 M7113) hr7114).mono ?_
  rintro e_ w7121 ⟨p7116, c7117, sg7118, sg7119, rfl, ho7120, K7122⟩
  have M7123 := M7113.call K7122
  refine ⟨_, rfl, ?_⟩
  refine W_run 1 [(0, .slice p6218 x6216.length c6219), (1, .slice p6223 x6221.length c6224), (2, .int .i64 x6226), (8, .slice p7097 r7095.1.length c7098), (9, .bool r7095.2), (10, .slice p7107 r7105.length c7108), (11, .slice p7116 r7114.length c7117)] w7121 (by kernel_rfl) ?_
  refine W_nil ?_
  refine N_then ?_
  refine G_seq ?_
  refine G_region ?_
  refine W_run 3 [(0, .slice p6218 x6216.length c6219), (1, .slice p6223 x6221.length c6224), (2, .int .i64 x6226), (8, .slice p7097 r7095.1.length c7098), (9, .bool r7095.2), (10, .slice p7107 r7105.length c7108), (11, .slice p7116 r7114.length c7117), (41, .slice p7107 r7105.length c7108), (42, .slice p7116 r7114.length c7117), (43, .int .i64 x6226)] w7121 (by kernel_rfl) ?_
  obtain ⟨r7921, hr7921, hm⟩ := gx_bind hm
  refine W_call 31 #[.slice p7107 r7105.length c7108, .slice p7116 r7114.length c7117, .int .i64 x6226] (by kernel_rfl) (by kernel_rfl) ?_
  refine (c_i_ShareGoals w7121 r7105 p7107 c7108 (ho7110.rd M7123 5 (by kernel_rfl)) r7114 p7116 c7117 (ho7120.rd M7123 6 (by kernel_rfl) 7 (by kernel_rfl)) x6226 hr7921).mono ?_
  rintro e_ w7928 ⟨p7923, c7924, sg7925, sg7926, rfl, ho7927, K7929⟩
  have M7930 := M7123.call K7929
  refine ⟨_, rfl, ?_⟩
  refine W_run 5 [(0, .slice p6218 x6216.length c6219), (1, .slice p6223 x6221.length c6224), (2, .int .i64 x6226), (8, .slice p7097 r7095.1.length c7098), (9, .bool r7095.2), (10, .slice p7107 r7105.length c7108), (11, .slice p7116 r7114.length c7117), (12, .slice p7923 r7921.1.length c7924), (13, .bool r7921.2)] w7928 (by kernel_rfl) ?_
  refine W_nil ?_
  refine N_then ?_
  refine G_seq ?_
  refine G_seq ?_
  obtain ⟨o7936, ho7937, hm7938⟩ := gx_bind hm
  refine G_meet (fun a w' => Mem [] w w' [sg7099, sg7100, sg7109, sg7118, sg7119, sg7925, sg7926] ∧ Sat Try.f7.ntmps [(0, .slice p6218 x6216.length c6219), (1, .slice p6223 x6221.length c6224), (2, .int .i64 x6226), (8, .slice p7097 r7095.1.length c7098), (9, .bool r7095.2), (10, .slice p7107 r7105.length c7108), (11, .slice p7116 r7114.length c7117), (12, .slice p7923 r7921.1.length c7924), (13, .bool r7921.2), (55, .bool o7936)] a) ?_ ?_
  · have hm := ho7937
    refine G_region ?_
    refine W_run 2 [(0, .slice p6218 x6216.length c6219), (1, .slice p6223 x6221.length c6224), (2, .int .i64 x6226), (8, .slice p7097 r7095.1.length c7098), (9, .bool r7095.2), (10, .slice p7107 r7105.length c7108), (11, .slice p7116 r7114.length c7117), (12, .slice p7923 r7921.1.length c7924), (13, .bool r7921.2), (47, .slice p7923 r7921.1.length c7924), (48, .slice p7097 r7095.1.length c7098)] w7928 (by kernel_rfl) ?_
    obtain ⟨r7939, hr7939, hm⟩ := gx_bind hm
    refine W_call 19 #[.slice p7923 r7921.1.length c7924, .slice p7097 r7095.1.length c7098] (by kernel_rfl) (by kernel_rfl) ?_
    refine (c_l_eqBalloonS w7928 r7921.1 p7923 c7924 (ho7927.rd M7930 8 (by kernel_rfl) 9 (by kernel_rfl)) r7095.1 p7097 c7098 (ho7101.rd M7930 3 (by kernel_rfl) 4 (by kernel_rfl)) hr7939).mono ?_
    rintro e_ w7940 ⟨rfl, K7941⟩
    have M7942 := M7930.call0 K7941
    refine ⟨_, rfl, ?_⟩
    refine W_run 2 [(0, .slice p6218 x6216.length c6219), (1, .slice p6223 x6221.length c6224), (2, .int .i64 x6226), (8, .slice p7097 r7095.1.length c7098), (9, .bool r7095.2), (10, .slice p7107 r7105.length c7108), (11, .slice p7116 r7114.length c7117), (12, .slice p7923 r7921.1.length c7924), (13, .bool r7921.2), (51, .bool (!r7939))] w7940 (by kernel_rfl) ?_
    rcases gx_bif hm with ⟨hc7943, hm⟩ | ⟨hc7943, hm⟩
    · refine W_known 51 true (by kernel_rfl) hc7943 ?_
      refine W_run 4 [(0, .slice p6218 x6216.length c6219), (1, .slice p6223 x6221.length c6224), (2, .int .i64 x6226), (8, .slice p7097 r7095.1.length c7098), (9, .bool r7095.2), (10, .slice p7107 r7105.length c7108), (11, .slice p7116 r7114.length c7117), (12, .slice p7923 r7921.1.length c7924), (13, .bool r7921.2), (55, .bool true)] w7940 (by kernel_rfl) ?_
      refine W_nil ?_
      obtain rfl := Option.some.inj hm
      exact N_meet fun a ha => ⟨M7942.pick [3, 4, 5, 6, 7, 8, 9] (by kernel_rfl), ha.sub (by kernel_rfl)⟩
    refine W_known 51 false (by kernel_rfl) hc7943 ?_
    refine W_run 4 [(0, .slice p6218 x6216.length c6219), (1, .slice p6223 x6221.length c6224), (2, .int .i64 x6226), (8, .slice p7097 r7095.1.length c7098), (9, .bool r7095.2), (10, .slice p7107 r7105.length c7108), (11, .slice p7116 r7114.length c7117), (12, .slice p7923 r7921.1.length c7924), (13, .bool r7921.2), (55, .bool (!(r7921.2 == r7095.2)))] w7940 (by kernel_rfl) ?_
    refine W_nil ?_
    obtain rfl := Option.some.inj hm
    exact N_meet fun a ha => ⟨M7942.pick [3, 4, 5, 6, 7, 8, 9] (by kernel_rfl), ha.sub (by kernel_rfl)⟩
  intro a7946 w7944 ⟨M7945, hS7947⟩
  refine N_use hS7947 ?_
  have hm := hm7938
  refine N_then ?_
  rcases gx_bif hm with ⟨hc7948, hm⟩ | ⟨hc7948, hm⟩
  · refine G_cond_t (b := o7936) hc7948 (by kernel_rfl) ?_
    refine G_seq ?_
    refine G_region ?_
    refine W_run 1 [(6, .bool false)] w7944 (by kernel_rfl) ?_
    refine W_nil ?_
    refine N_then ?_
    refine G_ret ?_
    refine N_then_ret ?_
    obtain rfl := Option.some.inj hm
    refine N_ret [.bool false] (RVs_cons (RV_tmp (by kernel_rfl)) RVs_nil) ?_
    exact ⟨rfl, M7945.pick [] (by kernel_rfl)⟩
  refine G_cond_f (b := o7936) hc7948 (by kernel_rfl) ?_
  refine G_skip ?_
  refine N_then ?_
  refine G_seq ?_
  refine G_seq ?_
  refine G_region ?_
  refine W_run 2 [(0, .slice p6218 x6216.length c6219), (1, .slice p6223 x6221.length c6224), (2, .int .i64 x6226), (8, .slice p7097 r7095.1.length c7098), (9, .bool r7095.2), (10, .slice p7107 r7105.length c7108), (11, .slice p7116 r7114.length c7117), (12, .slice p7923 r7921.1.length c7924), (13, .bool r7921.2), (56, .slice p7107 r7105.length c7108), (57, .slice p6218 x6216.length c6219)] w7944 (by kernel_rfl) ?_
  obtain ⟨r7949, hr7949, hm⟩ := gx_bind hm
  refine W_call 15 #[.slice p6218 x6216.length c6219] (by kernel_rfl) (by kernel_rfl) ?_
  refine (c_l_toIntS w7944 x6216 p6218 c6219 (h6220.mem0 M7945) hr7949).mono ?_
  rintro e_ w7955 ⟨p7951, c7952, sg7953, rfl, ho7954, K7956⟩
  have M7957 := M7945.call K7956
  refine ⟨_, rfl, ?_⟩
  obtain ⟨r7958, hr7958, hm⟩ := gx_bind hm
  refine W_call 18 #[.slice p7107 r7105.length c7108, .slice p7951 r7949.length c7952] (by kernel_rfl) (by kernel_rfl) ?_
  refine (c_l_eqIntS w7955 r7105 p7107 c7108 (ho7110.rd M7957 2 (by kernel_rfl)) r7949 p7951 c7952 (ho7954.rd M7957 7 (by kernel_rfl)) hr7958).mono ?_
  rintro e_ w7959 ⟨rfl, K7960⟩
  have M7961 := M7957.call0 K7960
  refine ⟨_, rfl, ?_⟩
  refine W_run 1 [(0, .slice p6218 x6216.length c6219), (1, .slice p6223 x6221.length c6224), (2, .int .i64 x6226), (8, .slice p7097 r7095.1.length c7098), (9, .bool r7095.2), (10, .slice p7107 r7105.length c7108), (11, .slice p7116 r7114.length c7117), (12, .slice p7923 r7921.1.length c7924), (13, .bool r7921.2), (60, .bool (!r7958))] w7959 (by kernel_rfl) ?_
  refine W_nil ?_
  refine N_then ?_
  rcases gx_bif hm with ⟨hc7962, hm⟩ | ⟨hc7962, hm⟩
  · refine G_cond_t (b := (!r7958)) hc7962 (by kernel_rfl) ?_
    refine G_seq ?_
    refine G_region ?_
    refine W_run 1 [(6, .bool false)] w7959 (by kernel_rfl) ?_
    refine W_nil ?_
    refine N_then ?_
    refine G_ret ?_
    refine N_then_ret ?_
    obtain rfl := Option.some.inj hm
    refine N_ret [.bool false] (RVs_cons (RV_tmp (by kernel_rfl)) RVs_nil) ?_
    exact ⟨rfl, M7961.pick [] (by kernel_rfl)⟩
  refine G_cond_f (b := (!r7958)) hc7962 (by kernel_rfl) ?_
  refine G_skip ?_
  refine N_then ?_
  refine G_seq ?_
  refine G_seq ?_
  refine G_region ?_
  refine W_run 2 [(0, .slice p6218 x6216.length c6219), (1, .slice p6223 x6221.length c6224), (2, .int .i64 x6226), (8, .slice p7097 r7095.1.length c7098), (9, .bool r7095.2), (10, .slice p7107 r7105.length c7108), (11, .slice p7116 r7114.length c7117), (12, .slice p7923 r7921.1.length c7924), (13, .bool r7921.2), (61, .slice p7116 r7114.length c7117), (62, .slice p6223 x6221.length c6224)] w7959 (by kernel_rfl) ?_
  obtain ⟨r7963, hr7963, hm⟩ := gx_bind hm
  refine W_call 16 #[.slice p6223 x6221.length c6224] (by kernel_rfl) (by kernel_rfl) ?_
  refine (c_l_toBalloonS w7959 x6221 p6223 c6224 (h6225.mem0 M7961) hr7963).mono ?_
  rintro e_ w7970 ⟨p7965, c7966, sg7967, sg7968, rfl, ho7969, K7971⟩
  have M7972 := M7961.call K7971
  refine ⟨_, rfl, ?_⟩
  obtain ⟨r7973, hr7973, hm⟩ := gx_bind hm
  refine W_call 19 #[.slice p7116 r7114.length c7117, .slice p7965 r7963.length c7966] (by kernel_rfl) (by kernel_rfl) ?_
  refine (c_l_eqBalloonS w7970 r7114 p7116 c7117 (ho7120.rd M7972 3 (by kernel_rfl) 4 (by kernel_rfl)) r7963 p7965 c7966 (ho7969.rd M7972 8 (by kernel_rfl) 9 (by kernel_rfl)) hr7973).mono ?_
  rintro e_ w7974 ⟨rfl, K7975⟩
  have M7976 := M7972.call0 K7975
  refine ⟨_, rfl, ?_⟩
  refine W_run 1 [(0, .slice p6218 x6216.length c6219), (1, .slice p6223 x6221.length c6224), (2, .int .i64 x6226), (8, .slice p7097 r7095.1.length c7098), (9, .bool r7095.2), (10, .slice p7107 r7105.length c7108), (11, .slice p7116 r7114.length c7117), (12, .slice p7923 r7921.1.length c7924), (13, .bool r7921.2), (65, .bool (!r7973))] w7974 (by kernel_rfl) ?_
  refine W_nil ?_
  refine N_then ?_
  rcases gx_bif hm with ⟨hc7977, hm⟩ | ⟨hc7977, hm⟩
  · refine G_cond_t (b := (!r7973)) hc7977 (by kernel_rfl) ?_
    refine G_seq ?_
    refine G_region ?_
    refine W_run 1 [(6, .bool false)] w7974 (by kernel_rfl) ?_
    refine W_nil ?_
    refine N_then ?_
    refine G_ret ?_
    refine N_then_ret ?_
    obtain rfl := Option.some.inj hm
    refine N_ret [.bool false] (RVs_cons (RV_tmp (by kernel_rfl)) RVs_nil) ?_
    exact ⟨rfl, M7976.pick [] (by kernel_rfl)⟩
  refine G_cond_f (b := (!r7973)) hc7977 (by kernel_rfl) ?_
  refine G_skip ?_
  refine N_then ?_
  refine G_seq ?_
  refine G_region ?_
  refine W_run 1 [(0, .slice p6218 x6216.length c6219), (1, .slice p6223 x6221.length c6224), (2, .int .i64 x6226), (8, .slice p7097 r7095.1.length c7098), (9, .bool r7095.2), (10, .slice p7107 r7105.length c7108), (11, .slice p7116 r7114.length c7117), (12, .slice p7923 r7921.1.length c7924), (13, .bool r7921.2), (14, .int .i64 1)] w7974 (by kernel_rfl) ?_
  refine W_nil ?_
  refine N_then ?_
  refine G_seq ?_
  refine G_region ?_
  refine W_run 2 [(0, .slice p6218 x6216.length c6219), (1, .slice p6223 x6221.length c6224), (2, .int .i64 x6226), (8, .slice p7097 r7095.1.length c7098), (9, .bool r7095.2), (11, .slice p7116 r7114.length c7117), (12, .slice p7923 r7921.1.length c7924), (13, .bool r7921.2), (14, .int .i64 1), (66, .slice p7107 r7105.length c7108), (67, .int .i64 1)] w7974 (by kernel_rfl) ?_
  obtain ⟨r7978, hr7978, hm⟩ := gx_bind hm
  refine W_call 24 #[.slice p7107 r7105.length c7108, .int .i64 1] (by kernel_rfl) (by kernel_rfl) ?_
  refine (c_l_markIntS w7974 r7105 p7107 c7108 sg7109 ho7110 1 (M7976.hasPick [2]) (M7976.nodupPick [2] (by kernel_rfl)) hr7978).mono ?_
  rintro e_ w7982 ⟨sg7979, rfl, ho7980, hl7981, K7983⟩
  have M7984 := M7976.callF' [2] [0, 1, 3, 4, 5, 6, 7, 8, 9] (by kernel_rfl) K7983
  refine ⟨_, rfl, ?_⟩
  refine W_conv 66 (.slice p7107 r7105.length c7108) (.slice p7107 r7978.2.length c7108) (by kernel_rfl) (by first | rw [hl7981] | rw [hl7981]) ?_
  refine W_run 1 [(0, .slice p6218 x6216.length c6219), (1, .slice p6223 x6221.length c6224), (2, .int .i64 x6226), (8, .slice p7097 r7095.1.length c7098), (9, .bool r7095.2), (11, .slice p7116 r7114.length c7117), (12, .slice p7923 r7921.1.length c7924), (13, .bool r7921.2), (14, .int .i64 r7978.1)] w7982 (by kernel_rfl) ?_
  refine W_nil ?_
  refine N_then ?_
  refine G_seq ?_
  refine G_region ?_
  refine W_run 2 [(0, .slice p6218 x6216.length c6219), (1, .slice p6223 x6221.length c6224), (2, .int .i64 x6226), (8, .slice p7097 r7095.1.length c7098), (9, .bool r7095.2), (12, .slice p7923 r7921.1.length c7924), (13, .bool r7921.2), (14, .int .i64 r7978.1), (69, .slice p7116 r7114.length c7117), (70, .int .i64 r7978.1)] w7982 (by kernel_rfl) ?_
  obtain ⟨r7985, hr7985, hm⟩ := gx_bind hm
  refine W_call 25 #[.slice p7116 r7114.length c7117, .int .i64 r7978.1] (by kernel_rfl) (by kernel_rfl) ?_
  refine (c_l_markBalloonS w7982 r7114 p7116 c7117 sg7118 sg7119 ho7120 r7978.1 (M7984.hasPick [2, 3]) (M7984.nodupPick [2, 3] (by kernel_rfl)) hr7985).mono ?_
  rintro e_ w7990 ⟨sg7986, sg7987, rfl, ho7988, hl7989, K7991⟩
  have M7992 := M7984.callF' [2, 3] [0, 1, 4, 5, 6, 7, 8, 9] (by kernel_rfl) K7991
  refine ⟨_, rfl, ?_⟩
  refine W_conv 69 (.slice p7116 r7114.length c7117) (.slice p7116 r7985.2.length c7117) (by kernel_rfl) (by first | rw [hl7989] | rw [hl7989]) ?_
  refine W_run 1 [(0, .slice p6218 x6216.length c6219), (1, .slice p6223 x6221.length c6224), (2, .int .i64 x6226), (8, .slice p7097 r7095.1.length c7098), (9, .bool r7095.2), (12, .slice p7923 r7921.1.length c7924), (13, .bool r7921.2), (14, .int .i64 r7985.1)] w7990 (by kernel_rfl) ?_
  refine W_nil ?_
  refine N_then ?_
  refine G_seq ?_
  refine G_seq ?_
  obtain ⟨o7999, ho8000, hm8001⟩ := gx_bind hm
  refine G_meet (fun a w' => Mem [] w w' [sg7099, sg7100, sg7925, sg7926] ∧ Sat Try.f7.ntmps [(0, .slice p6218 x6216.length c6219), (1, .slice p6223 x6221.length c6224), (2, .int .i64 x6226), (8, .slice p7097 r7095.1.length c7098), (9, .bool r7095.2), (12, .slice p7923 r7921.1.length c7924), (84, .bool o7999)] a) ?_ ?_
  · have hm := ho8000
    refine G_region ?_
    refine W_run 3 [(0, .slice p6218 x6216.length c6219), (1, .slice p6223 x6221.length c6224), (2, .int .i64 x6226), (8, .slice p7097 r7095.1.length c7098), (9, .bool r7095.2), (12, .slice p7923 r7921.1.length c7924), (13, .bool r7921.2), (74, .bool (decide (r7985.1 < 0)))] w7990 (by kernel_rfl) ?_
    rcases gx_bif hm with ⟨hc8002, hm⟩ | ⟨hc8002, hm⟩
    · refine W_known 74 true (by kernel_rfl) hc8002 ?_
      refine W_run 10 [(0, .slice p6218 x6216.length c6219), (1, .slice p6223 x6221.length c6224), (2, .int .i64 x6226), (8, .slice p7097 r7095.1.length c7098), (9, .bool r7095.2), (12, .slice p7923 r7921.1.length c7924), (84, .bool true)] w7990 (by kernel_rfl) ?_
      refine W_nil ?_
      obtain rfl := Option.some.inj hm
      exact N_meet fun a ha => ⟨M7992.pick [0, 1, 2, 3] (by kernel_rfl), ha.sub (by kernel_rfl)⟩
    refine W_known 74 false (by kernel_rfl) hc8002 ?_
    refine W_run 2 [(0, .slice p6218 x6216.length c6219), (1, .slice p6223 x6221.length c6224), (2, .int .i64 x6226), (8, .slice p7097 r7095.1.length c7098), (9, .bool r7095.2), (12, .slice p7923 r7921.1.length c7924), (13, .bool r7921.2), (74, .bool false), (75, .slice p7923 r7921.1.length c7924), (76, .slice p7097 r7095.1.length c7098)] w7990 (by kernel_rfl) ?_
    obtain ⟨r8003, hr8003, hm⟩ := gx_bind hm
    refine W_call 19 #[.slice p7923 r7921.1.length c7924, .slice p7097 r7095.1.length c7098] (by kernel_rfl) (by kernel_rfl) ?_
    refine (c_l_eqBalloonS w7990 r7921.1 p7923 c7924 (ho7927.rd M7992 2 (by kernel_rfl) 3 (by kernel_rfl)) r7095.1 p7097 c7098 (ho7101.rd M7992 0 (by kernel_rfl) 1 (by kernel_rfl)) hr8003).mono ?_
    rintro e_ w8004 ⟨rfl, K8005⟩
    have M8006 := M7992.call0 K8005
    refine ⟨_, rfl, ?_⟩
    refine W_run 3 [(0, .slice p6218 x6216.length c6219), (1, .slice p6223 x6221.length c6224), (2, .int .i64 x6226), (8, .slice p7097 r7095.1.length c7098), (9, .bool r7095.2), (12, .slice p7923 r7921.1.length c7924), (13, .bool r7921.2), (80, .bool (!r8003))] w8004 (by kernel_rfl) ?_
    rcases gx_bif hm with ⟨hc8007, hm⟩ | ⟨hc8007, hm⟩
    · refine W_known 80 true (by kernel_rfl) hc8007 ?_
      refine W_run 4 [(0, .slice p6218 x6216.length c6219), (1, .slice p6223 x6221.length c6224), (2, .int .i64 x6226), (8, .slice p7097 r7095.1.length c7098), (9, .bool r7095.2), (12, .slice p7923 r7921.1.length c7924), (84, .bool true)] w8004 (by kernel_rfl) ?_
      refine W_nil ?_
      obtain rfl := Option.some.inj hm
      exact N_meet fun a ha => ⟨M8006.pick [0, 1, 2, 3] (by kernel_rfl), ha.sub (by kernel_rfl)⟩
    refine W_known 80 false (by kernel_rfl) hc8007 ?_
    refine W_run 4 [(0, .slice p6218 x6216.length c6219), (1, .slice p6223 x6221.length c6224), (2, .int .i64 x6226), (8, .slice p7097 r7095.1.length c7098), (9, .bool r7095.2), (12, .slice p7923 r7921.1.length c7924), (84, .bool (!(r7921.2 == r7095.2)))] w8004 (by kernel_rfl) ?_
    refine W_nil ?_
    obtain rfl := Option.some.inj hm
    exact N_meet fun a ha => ⟨M8006.pick [0, 1, 2, 3] (by kernel_rfl), ha.sub (by kernel_rfl)⟩
  intro a8010 w8008 ⟨M8009, hS8011⟩
  refine N_use hS8011 ?_
  have hm := hm8001
  refine N_then ?_
  rcases gx_bif hm with ⟨hc8012, hm⟩ | ⟨hc8012, hm⟩
  · refine G_cond_t (b := o7999) hc8012 (by kernel_rfl) ?_
    refine G_seq ?_
    refine G_region ?_
    refine W_run 1 [(6, .bool false)] w8008 (by kernel_rfl) ?_
    refine W_nil ?_
    refine N_then ?_
    refine G_ret ?_
    refine N_then_ret ?_
    obtain rfl := Option.some.inj hm
    refine N_ret [.bool false] (RVs_cons (RV_tmp (by kernel_rfl)) RVs_nil) ?_
    exact ⟨rfl, M8009.pick [] (by kernel_rfl)⟩
  refine G_cond_f (b := o7999) hc8012 (by kernel_rfl) ?_
  refine G_skip ?_
  refine N_then ?_
  refine G_seq ?_
  refine G_region ?_
  refine W_run 1 [(0, .slice p6218 x6216.length c6219), (1, .slice p6223 x6221.length c6224), (2, .int .i64 x6226), (8, .slice p7097 r7095.1.length c7098), (9, .bool r7095.2), (12, .slice p7923 r7921.1.length c7924), (15, .int .i64 1)] w8008 (by kernel_rfl) ?_
  refine W_nil ?_
  refine N_then ?_
  refine G_seq ?_
  refine G_region ?_
  refine W_run 2 [(0, .slice p6218 x6216.length c6219), (1, .slice p6223 x6221.length c6224), (2, .int .i64 x6226), (8, .slice p7097 r7095.1.length c7098), (9, .bool r7095.2), (12, .slice p7923 r7921.1.length c7924), (15, .int .i64 1), (85, .slice p7923 r7921.1.length c7924), (86, .int .i64 1)] w8008 (by kernel_rfl) ?_
  obtain ⟨r8013, hr8013, hm⟩ := gx_bind hm
  refine W_call 25 #[.slice p7923 r7921.1.length c7924, .int .i64 1] (by kernel_rfl) (by kernel_rfl) ?_
  refine (c_l_markBalloonS w8008 r7921.1 p7923 c7924 sg7925 sg7926 ho7927 1 (M8009.hasPick [2, 3]) (M8009.nodupPick [2, 3] (by kernel_rfl)) hr8013).mono ?_
  rintro e_ w8018 ⟨sg8014, sg8015, rfl, ho8016, hl8017, K8019⟩
  have M8020 := M8009.callF' [2, 3] [0, 1] (by kernel_rfl) K8019
  refine ⟨_, rfl, ?_⟩
  refine W_conv 12 (.slice p7923 r7921.1.length c7924) (.slice p7923 r8013.2.length c7924) (by kernel_rfl) (by first | rw [hl8017] | rw [hl8017]) ?_
  refine W_conv 85 (.slice p7923 r7921.1.length c7924) (.slice p7923 r8013.2.length c7924) (by kernel_rfl) (by first | rw [hl8017] | rw [hl8017]) ?_
  refine W_run 1 [(0, .slice p6218 x6216.length c6219), (1, .slice p6223 x6221.length c6224), (2, .int .i64 x6226), (8, .slice p7097 r7095.1.length c7098), (9, .bool r7095.2), (12, .slice p7923 r8013.2.length c7924), (15, .int .i64 r8013.1)] w8018 (by kernel_rfl) ?_
  refine W_nil ?_
  refine N_then ?_
  refine G_seq ?_
  refine G_region ?_
  refine W_run 1 [(0, .slice p6218 x6216.length c6219), (1, .slice p6223 x6221.length c6224), (2, .int .i64 x6226), (8, .slice p7097 r7095.1.length c7098), (9, .bool r7095.2), (12, .slice p7923 r8013.2.length c7924), (15, .int .i64 r8013.1), (16, .int .i64 1)] w8018 (by kernel_rfl) ?_
  refine W_nil ?_
  refine N_then ?_
  refine G_seq ?_
  refine G_region ?_
  refine W_run 2 [(0, .slice p6218 x6216.length c6219), (1, .slice p6223 x6221.length c6224), (2, .int .i64 x6226), (8, .slice p7097 r7095.1.length c7098), (9, .bool r7095.2), (12, .slice p7923 r8013.2.length c7924), (15, .int .i64 r8013.1), (16, .int .i64 1), (88, .slice p7923 r8013.2.length c7924), (89, .int .i64 1)] w8018 (by kernel_rfl) ?_
  obtain ⟨r8021, hr8021, hm⟩ := gx_bind hm
  refine W_call 26 #[.slice p7923 r8013.2.length c7924, .int .i64 1] (by kernel_rfl) (by kernel_rfl) ?_
  refine (c_l_heldBalloonS w8018 r8013.2 p7923 c7924 (ho8016.rd M8020 2 (by kernel_rfl) 3 (by kernel_rfl)) 1 hr8021).mono ?_
  rintro e_ w8022 ⟨rfl, K8023⟩
  have M8024 := M8020.call0 K8023
  refine ⟨_, rfl, ?_⟩
  refine W_run 1 [(0, .slice p6218 x6216.length c6219), (1, .slice p6223 x6221.length c6224), (2, .int .i64 x6226), (8, .slice p7097 r7095.1.length c7098), (9, .bool r7095.2), (12, .slice p7923 r8013.2.length c7924), (15, .int .i64 r8013.1), (16, .int .i64 r8021)] w8022 (by kernel_rfl) ?_
  refine W_nil ?_
  refine N_then ?_
  refine G_seq ?_
  refine G_seq ?_
  refine G_region ?_
  refine W_run 2 [(0, .slice p6218 x6216.length c6219), (1, .slice p6223 x6221.length c6224), (2, .int .i64 x6226), (8, .slice p7097 r7095.1.length c7098), (9, .bool r7095.2), (12, .slice p7923 r8013.2.length c7924), (15, .int .i64 r8013.1), (16, .int .i64 r8021), (92, .bool (decide (r8021 < 0)))] w8022 (by kernel_rfl) ?_
  refine W_nil ?_
  refine N_then ?_
  rcases gx_bif hm with ⟨hc8025, hm⟩ | ⟨hc8025, hm⟩
  · refine G_cond_t (b := (decide (r8021 < 0))) hc8025 (by kernel_rfl) ?_
    refine G_seq ?_
    refine G_region ?_
    refine W_run 1 [(6, .bool false)] w8022 (by kernel_rfl) ?_
    refine W_nil ?_
    refine N_then ?_
    refine G_ret ?_
    refine N_then_ret ?_
    obtain rfl := Option.some.inj hm
    refine N_ret [.bool false] (RVs_cons (RV_tmp (by kernel_rfl)) RVs_nil) ?_
    exact ⟨rfl, M8024.pick [] (by kernel_rfl)⟩
  refine G_cond_f (b := (decide (r8021 < 0))) hc8025 (by kernel_rfl) ?_
  refine G_skip ?_
  refine N_then ?_
  refine G_seq ?_
  refine G_seq ?_
  refine G_region ?_
  refine W_run 3 [(0, .slice p6218 x6216.length c6219), (1, .slice p6223 x6221.length c6224), (2, .int .i64 x6226), (8, .slice p7097 r7095.1.length c7098), (9, .bool r7095.2), (12, .slice p7923 r8013.2.length c7924), (15, .int .i64 r8013.1), (95, .bool (r8021 != r8013.1))] w8022 (by kernel_rfl) ?_
  refine W_nil ?_
  refine N_then ?_
  rcases gx_bif hm with ⟨hc8026, hm⟩ | ⟨hc8026, hm⟩
  · refine G_cond_t (b := (r8021 != r8013.1)) hc8026 (by kernel_rfl) ?_
    refine G_seq ?_
    refine G_region ?_
    refine W_run 1 [(6, .bool false)] w8022 (by kernel_rfl) ?_
    refine W_nil ?_
    refine N_then ?_
    refine G_ret ?_
    refine N_then_ret ?_
    obtain rfl := Option.some.inj hm
    refine N_ret [.bool false] (RVs_cons (RV_tmp (by kernel_rfl)) RVs_nil) ?_
    exact ⟨rfl, M8024.pick [] (by kernel_rfl)⟩
  refine G_cond_f (b := (r8021 != r8013.1)) hc8026 (by kernel_rfl) ?_
  refine G_skip ?_
  refine N_then ?_
  refine G_seq ?_
  refine G_region ?_
  refine W_run 1 [(1, .slice p6223 x6221.length c6224), (2, .int .i64 x6226), (8, .slice p7097 r7095.1.length c7098), (9, .bool r7095.2), (12, .slice p7923 r8013.2.length c7924), (15, .int .i64 r8013.1), (97, .slice p6218 x6216.length c6219)] w8022 (by kernel_rfl) ?_
  obtain ⟨r8027, hr8027, hm⟩ := gx_bind hm
  refine W_call 15 #[.slice p6218 x6216.length c6219] (by kernel_rfl) (by kernel_rfl) ?_
  refine (c_l_toIntS w8022 x6216 p6218 c6219 (h6220.mem0 M8024) hr8027).mono ?_
  rintro e_ w8033 ⟨p8029, c8030, sg8031, rfl, ho8032, K8034⟩
  have M8035 := M8024.call K8034
  refine ⟨_, rfl, ?_⟩
  refine W_run 1 [(2, .int .i64 x6226), (8, .slice p7097 r7095.1.length c7098), (9, .bool r7095.2), (12, .slice p7923 r8013.2.length c7924), (15, .int .i64 r8013.1), (98, .slice p8029 r8027.length c8030), (99, .slice p6223 x6221.length c6224)] w8033 (by kernel_rfl) ?_
  obtain ⟨r8036, hr8036, hm⟩ := gx_bind hm
  refine W_call 16 #[.slice p6223 x6221.length c6224] (by kernel_rfl) (by kernel_rfl) ?_
  refine (c_l_toBalloonS w8033 x6221 p6223 c6224 (h6225.mem0 M8035) hr8036).mono ?_
  rintro e_ w8043 ⟨p8038, c8039, sg8040, sg8041, rfl, ho8042, K8044⟩
  have M8045 := M8035.call K8044
  refine ⟨_, rfl, ?_⟩
  refine W_run 1 [(8, .slice p7097 r7095.1.length c7098), (9, .bool r7095.2), (12, .slice p7923 r8013.2.length c7924), (15, .int .i64 r8013.1), (98, .slice p8029 r8027.length c8030), (100, .slice p8038 r8036.length c8039), (101, .int .i64 x6226)] w8043 (by kernel_rfl) ?_
  obtain ⟨r8046, hr8046, hm⟩ := gx_bind hm
  refine W_call 31 #[.slice p8029 r8027.length c8030, .slice p8038 r8036.length c8039, .int .i64 x6226] (by kernel_rfl) (by kernel_rfl) ?_
  refine (c_i_ShareGoals w8043 r8027 p8029 c8030 (ho8032.rd M8045 4 (by kernel_rfl)) r8036 p8038 c8039 (ho8042.rd M8045 5 (by kernel_rfl) 6 (by kernel_rfl)) x6226 hr8046).mono ?_
  rintro e_ w8053 ⟨p8048, c8049, sg8050, sg8051, rfl, ho8052, K8054⟩
  have M8055 := M8045.call K8054
  refine ⟨_, rfl, ?_⟩
  refine W_run 5 [(8, .slice p7097 r7095.1.length c7098), (9, .bool r7095.2), (12, .slice p7923 r8013.2.length c7924), (15, .int .i64 r8013.1), (17, .slice p8048 r8046.1.length c8049), (18, .bool r8046.2)] w8053 (by kernel_rfl) ?_
  refine W_nil ?_
  refine N_then ?_
  refine G_seq ?_
  refine G_seq ?_
  obtain ⟨o8061, ho8062, hm8063⟩ := gx_bind hm
  refine G_meet (fun a w' => Mem [] w w' [sg8014, sg8015] ∧ Sat Try.f7.ntmps [(12, .slice p7923 r8013.2.length c7924), (15, .int .i64 r8013.1), (113, .bool o8061)] a) ?_ ?_
  · have hm := ho8062
    refine G_region ?_
    refine W_run 2 [(9, .bool r7095.2), (12, .slice p7923 r8013.2.length c7924), (15, .int .i64 r8013.1), (18, .bool r8046.2), (105, .slice p8048 r8046.1.length c8049), (106, .slice p7097 r7095.1.length c7098)] w8053 (by kernel_rfl) ?_
    obtain ⟨r8064, hr8064, hm⟩ := gx_bind hm
    refine W_call 19 #[.slice p8048 r8046.1.length c8049, .slice p7097 r7095.1.length c7098] (by kernel_rfl) (by kernel_rfl) ?_
    refine (c_l_eqBalloonS w8053 r8046.1 p8048 c8049 (ho8052.rd M8055 7 (by kernel_rfl) 8 (by kernel_rfl)) r7095.1 p7097 c7098 (ho7101.rd M8055 0 (by kernel_rfl) 1 (by kernel_rfl)) hr8064).mono ?_
    rintro e_ w8065 ⟨rfl, K8066⟩
    have M8067 := M8055.call0 K8066
    refine ⟨_, rfl, ?_⟩
    refine W_run 2 [(9, .bool r7095.2), (12, .slice p7923 r8013.2.length c7924), (15, .int .i64 r8013.1), (18, .bool r8046.2), (109, .bool (!r8064))] w8065 (by kernel_rfl) ?_
    rcases gx_bif hm with ⟨hc8068, hm⟩ | ⟨hc8068, hm⟩
    · refine W_known 109 true (by kernel_rfl) hc8068 ?_
      refine W_run 4 [(12, .slice p7923 r8013.2.length c7924), (15, .int .i64 r8013.1), (113, .bool true)] w8065 (by kernel_rfl) ?_
      refine W_nil ?_
      obtain rfl := Option.some.inj hm
      exact N_meet fun a ha => ⟨M8067.pick [2, 3] (by kernel_rfl), ha.sub (by kernel_rfl)⟩
    refine W_known 109 false (by kernel_rfl) hc8068 ?_
    refine W_run 4 [(12, .slice p7923 r8013.2.length c7924), (15, .int .i64 r8013.1), (113, .bool (!(r8046.2 == r7095.2)))] w8065 (by kernel_rfl) ?_
    refine W_nil ?_
    obtain rfl := Option.some.inj hm
    exact N_meet fun a ha => ⟨M8067.pick [2, 3] (by kernel_rfl), ha.sub (by kernel_rfl)⟩
  intro a8071 w8069 ⟨M8070, hS8072⟩
  refine N_use hS8072 ?_
  have hm := hm8063
  refine N_then ?_
  rcases gx_bif hm with ⟨hc8073, hm⟩ | ⟨hc8073, hm⟩
  · refine G_cond_t (b := o8061) hc8073 (by kernel_rfl) ?_
    refine G_seq ?_
    refine G_region ?_
    refine W_run 1 [(6, .bool false)] w8069 (by kernel_rfl) ?_
    refine W_nil ?_
    refine N_then ?_
    refine G_ret ?_
    refine N_then_ret ?_
    obtain rfl := Option.some.inj hm
    refine N_ret [.bool false] (RVs_cons (RV_tmp (by kernel_rfl)) RVs_nil) ?_
    exact ⟨rfl, M8070.pick [] (by kernel_rfl)⟩
  refine G_cond_f (b := o8061) hc8073 (by kernel_rfl) ?_
  refine G_skip ?_
  refine N_then ?_
  refine G_seq ?_
  refine G_region ?_
  refine W_run 1 [(12, .slice p7923 r8013.2.length c7924), (15, .int .i64 r8013.1), (16, .int .i64 1)] w8069 (by kernel_rfl) ?_
  refine W_nil ?_
  refine N_then ?_
  refine G_seq ?_
  refine G_region ?_
  refine W_run 2 [(15, .int .i64 r8013.1), (16, .int .i64 1), (114, .slice p7923 r8013.2.length c7924), (115, .int .i64 1)] w8069 (by kernel_rfl) ?_
  obtain ⟨r8074, hr8074, hm⟩ := gx_bind hm
  refine W_call 26 #[.slice p7923 r8013.2.length c7924, .int .i64 1] (by kernel_rfl) (by kernel_rfl) ?_
  refine (c_l_heldBalloonS w8069 r8013.2 p7923 c7924 (ho8016.rd M8070 0 (by kernel_rfl) 1 (by kernel_rfl)) 1 hr8074).mono ?_
  rintro e_ w8075 ⟨rfl, K8076⟩
  have M8077 := M8070.call0 K8076
  refine ⟨_, rfl, ?_⟩
  refine W_run 1 [(15, .int .i64 r8013.1), (16, .int .i64 r8074)] w8075 (by kernel_rfl) ?_
  refine W_nil ?_
  refine N_then ?_
  refine G_seq ?_
  refine G_seq ?_
  refine G_region ?_
  refine W_run 2 [(15, .int .i64 r8013.1), (16, .int .i64 r8074), (118, .bool (decide (r8074 < 0)))] w8075 (by kernel_rfl) ?_
  refine W_nil ?_
  refine N_then ?_
  rcases gx_bif hm with ⟨hc8078, hm⟩ | ⟨hc8078, hm⟩
  · refine G_cond_t (b := (decide (r8074 < 0))) hc8078 (by kernel_rfl) ?_
    refine G_seq ?_
    refine G_region ?_
    refine W_run 1 [(6, .bool false)] w8075 (by kernel_rfl) ?_
    refine W_nil ?_
    refine N_then ?_
    refine G_ret ?_
    refine N_then_ret ?_
    obtain rfl := Option.some.inj hm
    refine N_ret [.bool false] (RVs_cons (RV_tmp (by kernel_rfl)) RVs_nil) ?_
    exact ⟨rfl, M8077.pick [] (by kernel_rfl)⟩
  refine G_cond_f (b := (decide (r8074 < 0))) hc8078 (by kernel_rfl) ?_
  refine G_skip ?_
  refine N_then ?_
  refine G_seq ?_
  refine G_seq ?_
  refine G_region ?_
  refine W_run 3 [(121, .bool (r8074 != r8013.1))] w8075 (by kernel_rfl) ?_
  refine W_nil ?_
  refine N_then ?_
  rcases gx_bif hm with ⟨hc8079, hm⟩ | ⟨hc8079, hm⟩
  · refine G_cond_t (b := (r8074 != r8013.1)) hc8079 (by kernel_rfl) ?_
    refine G_seq ?_
    refine G_region ?_
    refine W_run 1 [(6, .bool false)] w8075 (by kernel_rfl) ?_
    refine W_nil ?_
    refine N_then ?_
    refine G_ret ?_
    refine N_then_ret ?_
    obtain rfl := Option.some.inj hm
    refine N_ret [.bool false] (RVs_cons (RV_tmp (by kernel_rfl)) RVs_nil) ?_
    exact ⟨rfl, M8077.pick [] (by kernel_rfl)⟩
  refine G_cond_f (b := (r8074 != r8013.1)) hc8079 (by kernel_rfl) ?_
  refine G_skip ?_
  refine N_then ?_
  refine G_seq ?_
  refine G_region ?_
  refine W_run 1 [(6, .bool true)] w8075 (by kernel_rfl) ?_
  refine W_nil ?_
  refine N_then ?_
  refine G_ret ?_
  obtain rfl := Option.some.inj hm
  refine N_ret [.bool true] (RVs_cons (RV_tmp (by kernel_rfl)) RVs_nil) ?_
  exact ⟨rfl, M8077.pick [] (by kernel_rfl)⟩
end Go.Proofs.Ytlfligjpmodefaa
