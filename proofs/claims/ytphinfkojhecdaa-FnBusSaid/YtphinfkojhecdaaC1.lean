/- The walks, printed by program: whenever the model gives r, the call returns r. Part 1. -/
import Derived.Test.YtphinfkojhecdaaM
import Derived.Test.YtphinfkojhecdaaProg
set_option linter.unusedVariables false
set_option maxRecDepth 100000
set_option maxHeartbeats 4000000
namespace Go.Proofs.Ytphinfkojhecdaa
open Go.Gx
theorem c_l_toBucket (w : World) (x6 : Bucket) {r : Bucket} (hm : M.l_toBucket x6 = some r) :
    Calls Try.prog 13 #[.agg #[.int .i64 x6.Guest, .int .i64 x6.Rate, .int .i64 x6.Burst, .int .i64 x6.Have, .int .i64 x6.Tick]] w fun e w' => e = .returned (.agg #[.int .i64 r.Guest, .int .i64 r.Rate, .int .i64 r.Burst, .int .i64 r.Have, .int .i64 r.Tick]) ∧ Mem [] w w' [] := by
  unfold M.l_toBucket at hm
  refine C_enter Try.func13 rfl (by kernel_rfl) ?_
  have M0 := Mem.refl [] w
  refine G_seq ?_
  refine G_region ?_
  refine W_new (fun b => .pointer (some ⟨b, 0, none⟩)) (.cells ⟨[.int .i64 x6.Guest, .int .i64 x6.Rate, .int .i64 x6.Burst, .int .i64 x6.Have, .int .i64 x6.Tick]⟩ 23 (0, 0)) M0 rfl (by kernel_rfl) (by kernel_rfl) ?_
  intro b8 w9 M10
  refine W_new (fun b => .pointer (some ⟨b, 0, none⟩)) (.cells ⟨[.int .i64 0, .int .i64 0, .int .i64 0, .int .i64 0, .int .i64 0]⟩ 25 (0, 0)) M10 rfl (by kernel_rfl) (by kernel_rfl) ?_
  intro b12 w13 M14
  refine W_nil ?_
  refine N_then ?_
  refine G_seq ?_
  refine G_region ?_
  refine W_new (fun b => .pointer (some ⟨b, 0, none⟩)) (.cells ⟨[.int .i64 0, .int .i64 0, .int .i64 0, .int .i64 0, .int .i64 0]⟩ 25 (0, 0)) M14 rfl (by kernel_rfl) (by kernel_rfl) ?_
  intro b16 w17 M18
  refine W_nil ?_
  refine N_then ?_
  refine G_seq ?_
  refine G_region ?_
  refine W_run 1 [(1, .pointer (some ⟨b8, 0, none⟩)), (2, .pointer (some ⟨b12, 0, none⟩)), (3, .pointer (some ⟨b16, 0, none⟩)), (4, .pointer (some ⟨b8, 0, none⟩))] w17 (by kernel_rfl) ?_
  refine W_val (.int .i64 x6.Guest) w17 (by kernel_rfl) (E_load (e := 23) (fr := (0, 0)) _ _ false 1 b8 0 [.int .i64 x6.Guest, .int .i64 x6.Rate, .int .i64 x6.Burst, .int .i64 x6.Have, .int .i64 x6.Tick] (.int .i64 x6.Guest) rfl (by kernel_rfl) (by kernel_rfl) (by kernel_rfl) (M18.blk 0 (b := b8) (o := .cells ⟨[.int .i64 x6.Guest, .int .i64 x6.Rate, .int .i64 x6.Burst, .int .i64 x6.Have, .int .i64 x6.Tick]⟩ 23 (0, 0)) (by kernel_rfl))) ?_
  refine W_run 1 [(1, .pointer (some ⟨b8, 0, none⟩)), (2, .pointer (some ⟨b12, 0, none⟩)), (3, .pointer (some ⟨b16, 0, none⟩)), (5, .int .i64 x6.Guest), (6, .pointer (some ⟨b16, 0, none⟩))] w17 (by kernel_rfl) ?_
  refine W_store _ _ _ false 1 b16 0 [.int .i64 0, .int .i64 0, .int .i64 0, .int .i64 0, .int .i64 0] 25 (.int .i64 x6.Guest) 2 [.int .i64 x6.Guest, .int .i64 0, .int .i64 0, .int .i64 0, .int .i64 0] M18 (by kernel_rfl) rfl (by kernel_rfl) (by kernel_rfl) (by kernel_rfl) (by kernel_rfl) (by kernel_rfl) (by kernel_rfl) (by kernel_rfl) (by kernel_rfl) ?_
  intro w19 M20
  refine W_nil ?_
  refine N_then ?_
  refine G_seq ?_
  refine G_region ?_
  refine W_run 1 [(1, .pointer (some ⟨b8, 0, none⟩)), (2, .pointer (some ⟨b12, 0, none⟩)), (3, .pointer (some ⟨b16, 0, none⟩)), (7, .pointer (some ⟨b8, 1, none⟩))] w19 (by kernel_rfl) ?_
  refine W_val (.int .i64 x6.Rate) w19 (by kernel_rfl) (E_load (e := 23) (fr := (0, 0)) _ _ false 1 b8 1 [.int .i64 x6.Guest, .int .i64 x6.Rate, .int .i64 x6.Burst, .int .i64 x6.Have, .int .i64 x6.Tick] (.int .i64 x6.Rate) rfl (by kernel_rfl) (by kernel_rfl) (by kernel_rfl) (M20.blk 0 (b := b8) (o := .cells ⟨[.int .i64 x6.Guest, .int .i64 x6.Rate, .int .i64 x6.Burst, .int .i64 x6.Have, .int .i64 x6.Tick]⟩ 23 (0, 0)) (by kernel_rfl))) ?_
  refine W_run 1 [(1, .pointer (some ⟨b8, 0, none⟩)), (2, .pointer (some ⟨b12, 0, none⟩)), (3, .pointer (some ⟨b16, 0, none⟩)), (8, .int .i64 x6.Rate), (9, .pointer (some ⟨b16, 1, none⟩))] w19 (by kernel_rfl) ?_
  refine W_store _ _ _ false 1 b16 1 [.int .i64 x6.Guest, .int .i64 0, .int .i64 0, .int .i64 0, .int .i64 0] 25 (.int .i64 x6.Rate) 2 [.int .i64 x6.Guest, .int .i64 x6.Rate, .int .i64 0, .int .i64 0, .int .i64 0] M20 (by kernel_rfl) rfl (by kernel_rfl) (by kernel_rfl) (by kernel_rfl) (by kernel_rfl) (by kernel_rfl) (by kernel_rfl) (by kernel_rfl) (by kernel_rfl) ?_
  intro w21 M22
  refine W_nil ?_
  refine N_then ?_
  refine G_seq ?_
  refine G_region ?_
  refine W_run 1 [(1, .pointer (some ⟨b8, 0, none⟩)), (2, .pointer (some ⟨b12, 0, none⟩)), (3, .pointer (some ⟨b16, 0, none⟩)), (10, .pointer (some ⟨b8, 2, none⟩))] w21 (by kernel_rfl) ?_
  refine W_val (.int .i64 x6.Burst) w21 (by kernel_rfl) (E_load (e := 23) (fr := (0, 0)) _ _ false 1 b8 2 [.int .i64 x6.Guest, .int .i64 x6.Rate, .int .i64 x6.Burst, .int .i64 x6.Have, .int .i64 x6.Tick] (.int .i64 x6.Burst) rfl (by kernel_rfl) (by kernel_rfl) (by kernel_rfl) (M22.blk 0 (b := b8) (o := .cells ⟨[.int .i64 x6.Guest, .int .i64 x6.Rate, .int .i64 x6.Burst, .int .i64 x6.Have, .int .i64 x6.Tick]⟩ 23 (0, 0)) (by kernel_rfl))) ?_
  refine W_run 1 [(1, .pointer (some ⟨b8, 0, none⟩)), (2, .pointer (some ⟨b12, 0, none⟩)), (3, .pointer (some ⟨b16, 0, none⟩)), (11, .int .i64 x6.Burst), (12, .pointer (some ⟨b16, 2, none⟩))] w21 (by kernel_rfl) ?_
  refine W_store _ _ _ false 1 b16 2 [.int .i64 x6.Guest, .int .i64 x6.Rate, .int .i64 0, .int .i64 0, .int .i64 0] 25 (.int .i64 x6.Burst) 2 [.int .i64 x6.Guest, .int .i64 x6.Rate, .int .i64 x6.Burst, .int .i64 0, .int .i64 0] M22 (by kernel_rfl) rfl (by kernel_rfl) (by kernel_rfl) (by kernel_rfl) (by kernel_rfl) (by kernel_rfl) (by kernel_rfl) (by kernel_rfl) (by kernel_rfl) ?_
  intro w23 M24
  refine W_nil ?_
  refine N_then ?_
  refine G_seq ?_
  refine G_region ?_
  refine W_run 1 [(1, .pointer (some ⟨b8, 0, none⟩)), (2, .pointer (some ⟨b12, 0, none⟩)), (3, .pointer (some ⟨b16, 0, none⟩)), (13, .pointer (some ⟨b8, 3, none⟩))] w23 (by kernel_rfl) ?_
  refine W_val (.int .i64 x6.Have) w23 (by kernel_rfl) (E_load (e := 23) (fr := (0, 0)) _ _ false 1 b8 3 [.int .i64 x6.Guest, .int .i64 x6.Rate, .int .i64 x6.Burst, .int .i64 x6.Have, .int .i64 x6.Tick] (.int .i64 x6.Have) rfl (by kernel_rfl) (by kernel_rfl) (by kernel_rfl) (M24.blk 0 (b := b8) (o := .cells ⟨[.int .i64 x6.Guest, .int .i64 x6.Rate, .int .i64 x6.Burst, .int .i64 x6.Have, .int .i64 x6.Tick]⟩ 23 (0, 0)) (by kernel_rfl))) ?_
  refine W_run 1 [(1, .pointer (some ⟨b8, 0, none⟩)), (2, .pointer (some ⟨b12, 0, none⟩)), (3, .pointer (some ⟨b16, 0, none⟩)), (14, .int .i64 x6.Have), (15, .pointer (some ⟨b16, 3, none⟩))] w23 (by kernel_rfl) ?_
  refine W_store _ _ _ false 1 b16 3 [.int .i64 x6.Guest, .int .i64 x6.Rate, .int .i64 x6.Burst, .int .i64 0, .int .i64 0] 25 (.int .i64 x6.Have) 2 [.int .i64 x6.Guest, .int .i64 x6.Rate, .int .i64 x6.Burst, .int .i64 x6.Have, .int .i64 0] M24 (by kernel_rfl) rfl (by kernel_rfl) (by kernel_rfl) (by kernel_rfl) (by kernel_rfl) (by kernel_rfl) (by kernel_rfl) (by kernel_rfl) (by kernel_rfl) ?_
  intro w25 M26
  refine W_nil ?_
  refine N_then ?_
  refine G_seq ?_
  refine G_region ?_
  refine W_run 1 [(2, .pointer (some ⟨b12, 0, none⟩)), (3, .pointer (some ⟨b16, 0, none⟩)), (16, .pointer (some ⟨b8, 4, none⟩))] w25 (by kernel_rfl) ?_
  refine W_val (.int .i64 x6.Tick) w25 (by kernel_rfl) (E_load (e := 23) (fr := (0, 0)) _ _ false 1 b8 4 [.int .i64 x6.Guest, .int .i64 x6.Rate, .int .i64 x6.Burst, .int .i64 x6.Have, .int .i64 x6.Tick] (.int .i64 x6.Tick) rfl (by kernel_rfl) (by kernel_rfl) (by kernel_rfl) (M26.blk 0 (b := b8) (o := .cells ⟨[.int .i64 x6.Guest, .int .i64 x6.Rate, .int .i64 x6.Burst, .int .i64 x6.Have, .int .i64 x6.Tick]⟩ 23 (0, 0)) (by kernel_rfl))) ?_
  refine W_run 1 [(2, .pointer (some ⟨b12, 0, none⟩)), (3, .pointer (some ⟨b16, 0, none⟩)), (17, .int .i64 x6.Tick), (18, .pointer (some ⟨b16, 4, none⟩))] w25 (by kernel_rfl) ?_
  refine W_store _ _ _ false 1 b16 4 [.int .i64 x6.Guest, .int .i64 x6.Rate, .int .i64 x6.Burst, .int .i64 x6.Have, .int .i64 0] 25 (.int .i64 x6.Tick) 2 [.int .i64 x6.Guest, .int .i64 x6.Rate, .int .i64 x6.Burst, .int .i64 x6.Have, .int .i64 x6.Tick] M26 (by kernel_rfl) rfl (by kernel_rfl) (by kernel_rfl) (by kernel_rfl) (by kernel_rfl) (by kernel_rfl) (by kernel_rfl) (by kernel_rfl) (by kernel_rfl) ?_
  intro w27 M28
  refine W_nil ?_
  refine N_then ?_
  refine G_seq ?_
  refine G_region ?_
  refine W_val (.agg #[.int .i64 x6.Guest, .int .i64 x6.Rate, .int .i64 x6.Burst, .int .i64 x6.Have, .int .i64 x6.Tick]) w27 (by kernel_rfl) (E_load (e := 25) (fr := (0, 0)) _ _ true 5 b16 0 [.int .i64 x6.Guest, .int .i64 x6.Rate, .int .i64 x6.Burst, .int .i64 x6.Have, .int .i64 x6.Tick] (.agg #[.int .i64 x6.Guest, .int .i64 x6.Rate, .int .i64 x6.Burst, .int .i64 x6.Have, .int .i64 x6.Tick]) rfl (by kernel_rfl) (by kernel_rfl) (by kernel_rfl) (M28.blk 2 (b := b16) (o := .cells ⟨[.int .i64 x6.Guest, .int .i64 x6.Rate, .int .i64 x6.Burst, .int .i64 x6.Have, .int .i64 x6.Tick]⟩ 25 (0, 0)) (by kernel_rfl))) ?_
  refine W_store _ _ _ true 5 b12 0 [.int .i64 0, .int .i64 0, .int .i64 0, .int .i64 0, .int .i64 0] 25 (.agg #[.int .i64 x6.Guest, .int .i64 x6.Rate, .int .i64 x6.Burst, .int .i64 x6.Have, .int .i64 x6.Tick]) 1 [.int .i64 x6.Guest, .int .i64 x6.Rate, .int .i64 x6.Burst, .int .i64 x6.Have, .int .i64 x6.Tick] M28 (by kernel_rfl) rfl (by kernel_rfl) (by kernel_rfl) (by kernel_rfl) (by kernel_rfl) (by kernel_rfl) (by kernel_rfl) (by kernel_rfl) (by kernel_rfl) ?_
  intro w29 M30
  refine W_nil ?_
  refine N_then ?_
  refine G_ret ?_
  obtain rfl := Option.some.inj hm
  refine N_ret [.agg #[.int .i64 x6.Guest, .int .i64 x6.Rate, .int .i64 x6.Burst, .int .i64 x6.Have, .int .i64 x6.Tick]] (RVs_cons (RV_cell (g := true) (k := 5) (b := b12) (off := 0) (cs := [.int .i64 x6.Guest, .int .i64 x6.Rate, .int .i64 x6.Burst, .int .i64 x6.Have, .int .i64 x6.Tick]) (e := 25) (fr := (0, 0)) (v := .agg #[.int .i64 x6.Guest, .int .i64 x6.Rate, .int .i64 x6.Burst, .int .i64 x6.Have, .int .i64 x6.Tick]) (M30.blk 1 (b := b12) (o := .cells ⟨[.int .i64 x6.Guest, .int .i64 x6.Rate, .int .i64 x6.Burst, .int .i64 x6.Have, .int .i64 x6.Tick]⟩ 25 (0, 0)) (by kernel_rfl)) (by kernel_rfl) (by kernel_rfl) (by kernel_rfl)) RVs_nil) ?_
  exact ⟨rfl, M30.pick [] (by kernel_rfl)⟩
theorem c_s_l1In (w : World) (x45 : Int) (x46 : Int) (x47 : Int) {r : Bool} (hm : M.s_l1In x45 x46 x47 = some r) :
    Calls Try.prog 76 #[.int .i64 x45, .int .i64 x46, .int .i64 x47] w fun e w' => e = .returned (.bool r) ∧ Mem [] w w' [] := by
  unfold M.s_l1In at hm
  refine C_enter Try.func76 rfl (by kernel_rfl) ?_
  have M0 := Mem.refl [] w
  refine G_seq ?_
  refine G_region ?_
  refine W_run 1 [(0, .int .i64 x45), (1, .int .i64 x46), (2, .int .i64 x47)] w (by kernel_rfl) ?_
  refine W_nil ?_
  refine N_then ?_
  refine G_seq ?_
  obtain ⟨o49, ho50, hm51⟩ := gx_bind hm
  refine G_meet (fun a w' => Mem [] w w' [] ∧ Sat Try.f76.ntmps [(6, .bool o49)] a) ?_ ?_
  · have hm := ho50
    refine G_region ?_
    refine W_run 4 [(0, .int .i64 x45), (2, .int .i64 x47), (10, .bool (decide (x45 ≥ x46)))] w (by kernel_rfl) ?_
    rcases gx_bif hm with ⟨hc52, hm⟩ | ⟨hc52, hm⟩
    · refine W_known 10 true (by kernel_rfl) hc52 ?_
      refine W_run 5 [(6, .bool (decide (x45 ≤ x47)))] w (by kernel_rfl) ?_
      refine W_nil ?_
      obtain rfl := Option.some.inj hm
      exact N_meet fun a ha => ⟨M0.pick [] (by kernel_rfl), ha.sub (by kernel_rfl)⟩
    · refine W_known 10 false (by kernel_rfl) hc52 ?_
      refine W_run 5 [(6, .bool false)] w (by kernel_rfl) ?_
      refine W_nil ?_
      obtain rfl := Option.some.inj hm
      exact N_meet fun a ha => ⟨M0.pick [] (by kernel_rfl), ha.sub (by kernel_rfl)⟩
  · intro a55 w53 ⟨M54, hS56⟩
    refine N_use hS56 ?_
    have hm := hm51
    refine N_then ?_
    refine G_ret ?_
    obtain rfl := Option.some.inj hm
    refine N_ret [.bool o49] (RVs_cons (RV_tmp (by kernel_rfl)) RVs_nil) ?_
    exact ⟨rfl, M54.pick [] (by kernel_rfl)⟩
theorem c_s_l11Tick (w : World) (x77 : Int) {r : Bool} (hm : M.s_l11Tick x77 = some r) :
    Calls Try.prog 84 #[.int .i64 x77] w fun e w' => e = .returned (.bool r) ∧ Mem [] w w' [] := by
  unfold M.s_l11Tick at hm
  refine C_enter Try.func84 rfl (by kernel_rfl) ?_
  have M0 := Mem.refl [] w
  refine G_seq ?_
  refine G_region ?_
  refine W_run 1 [(0, .int .i64 x77)] w (by kernel_rfl) ?_
  refine W_nil ?_
  refine N_then ?_
  refine G_seq ?_
  refine G_region ?_
  refine W_run 1 [(3, .int .i64 x77)] w (by kernel_rfl) ?_
  obtain ⟨r78, hr78, hm⟩ := gx_bind hm
  refine W_call 76 #[.int .i64 x77, .int .i64 0, .int .i64 100000] (by kernel_rfl) (by kernel_rfl) ?_
  refine (c_s_l1In w x77 0 100000 hr78).mono ?_
  rintro e_ w79 ⟨rfl, K80⟩
  have M81 := M0.call0 K80
  refine ⟨_, rfl, ?_⟩
  refine W_run 1 [(2, .bool r78)] w79 (by kernel_rfl) ?_
  refine W_nil ?_
  refine N_then ?_
  refine G_ret ?_
  obtain rfl := Option.some.inj hm
  refine N_ret [.bool r78] (RVs_cons (RV_tmp (by kernel_rfl)) RVs_nil) ?_
  exact ⟨rfl, M81.pick [] (by kernel_rfl)⟩
theorem c_s_l23One (w : World) (x40 : Bucket) {r : Bool} (hm : M.s_l23One x40 = some r) :
    Calls Try.prog 56 #[.agg #[.int .i64 x40.Guest, .int .i64 x40.Rate, .int .i64 x40.Burst, .int .i64 x40.Have, .int .i64 x40.Tick]] w fun e w' => e = .returned (.bool r) ∧ Mem [] w w' [] := by
  unfold M.s_l23One at hm
  refine C_enter Try.func56 rfl (by kernel_rfl) ?_
  have M0 := Mem.refl [] w
  refine G_seq ?_
  refine G_region ?_
  refine W_new (fun b => .pointer (some ⟨b, 0, none⟩)) (.cells ⟨[.int .i64 x40.Guest, .int .i64 x40.Rate, .int .i64 x40.Burst, .int .i64 x40.Have, .int .i64 x40.Tick]⟩ 25 (0, 0)) M0 rfl (by kernel_rfl) (by kernel_rfl) ?_
  intro b42 w43 M44
  refine W_run 1 [(1, .pointer (some ⟨b42, 0, none⟩))] w43 (by kernel_rfl) ?_
  refine W_nil ?_
  refine N_then ?_
  refine G_seq ?_
  obtain ⟨o86, ho87, hm88⟩ := gx_bind hm
  refine G_meet (fun a w' => Mem [] w w' [] ∧ Sat Try.f56.ntmps [(2, .bool o86)] a) ?_ ?_
  · have hm := ho87
    refine G_region ?_
    refine W_run 1 [(1, .pointer (some ⟨b42, 0, none⟩)), (3, .pointer (some ⟨b42, 0, none⟩))] w43 (by kernel_rfl) ?_
    refine W_val (.int .i64 x40.Guest) w43 (by kernel_rfl) (E_load (e := 25) (fr := (0, 0)) _ _ false 1 b42 0 [.int .i64 x40.Guest, .int .i64 x40.Rate, .int .i64 x40.Burst, .int .i64 x40.Have, .int .i64 x40.Tick] (.int .i64 x40.Guest) rfl (by kernel_rfl) (by kernel_rfl) (by kernel_rfl) (M44.blk 0 (b := b42) (o := .cells ⟨[.int .i64 x40.Guest, .int .i64 x40.Rate, .int .i64 x40.Burst, .int .i64 x40.Have, .int .i64 x40.Tick]⟩ 25 (0, 0)) (by kernel_rfl))) ?_
    obtain ⟨r89, hr89, hm⟩ := gx_bind hm
    refine W_call 76 #[.int .i64 x40.Guest, .int .i64 1, .int .i64 4] (by kernel_rfl) (by kernel_rfl) ?_
    refine (c_s_l1In w43 x40.Guest 1 4 hr89).mono ?_
    rintro e_ w90 ⟨rfl, K91⟩
    have M92 := M44.call0 K91
    refine ⟨_, rfl, ?_⟩
    refine W_run 1 [(1, .pointer (some ⟨b42, 0, none⟩)), (6, .bool r89)] w90 (by kernel_rfl) ?_
    rcases gx_bif hm with ⟨hc93, hm⟩ | ⟨hc93, hm⟩
    · refine W_known 6 true (by kernel_rfl) hc93 ?_
      refine W_run 1 [(1, .pointer (some ⟨b42, 0, none⟩)), (6, .bool true), (7, .pointer (some ⟨b42, 1, none⟩))] w90 (by kernel_rfl) ?_
      refine W_val (.int .i64 x40.Rate) w90 (by kernel_rfl) (E_load (e := 25) (fr := (0, 0)) _ _ false 1 b42 1 [.int .i64 x40.Guest, .int .i64 x40.Rate, .int .i64 x40.Burst, .int .i64 x40.Have, .int .i64 x40.Tick] (.int .i64 x40.Rate) rfl (by kernel_rfl) (by kernel_rfl) (by kernel_rfl) (M92.blk 0 (b := b42) (o := .cells ⟨[.int .i64 x40.Guest, .int .i64 x40.Rate, .int .i64 x40.Burst, .int .i64 x40.Have, .int .i64 x40.Tick]⟩ 25 (0, 0)) (by kernel_rfl))) ?_
      obtain ⟨r94, hr94, hm⟩ := gx_bind hm
      refine W_call 76 #[.int .i64 x40.Rate, .int .i64 0, .int .i64 100] (by kernel_rfl) (by kernel_rfl) ?_
      refine (c_s_l1In w90 x40.Rate 0 100 hr94).mono ?_
      rintro e_ w95 ⟨rfl, K96⟩
      have M97 := M92.call0 K96
      refine ⟨_, rfl, ?_⟩
      refine W_run 2 [(1, .pointer (some ⟨b42, 0, none⟩)), (11, .bool r94)] w95 (by kernel_rfl) ?_
      rcases gx_bif hm with ⟨hc98, hm⟩ | ⟨hc98, hm⟩
      · refine W_known 11 true (by kernel_rfl) hc98 ?_
        refine W_run 1 [(1, .pointer (some ⟨b42, 0, none⟩)), (11, .bool true), (12, .pointer (some ⟨b42, 2, none⟩))] w95 (by kernel_rfl) ?_
        refine W_val (.int .i64 x40.Burst) w95 (by kernel_rfl) (E_load (e := 25) (fr := (0, 0)) _ _ false 1 b42 2 [.int .i64 x40.Guest, .int .i64 x40.Rate, .int .i64 x40.Burst, .int .i64 x40.Have, .int .i64 x40.Tick] (.int .i64 x40.Burst) rfl (by kernel_rfl) (by kernel_rfl) (by kernel_rfl) (M97.blk 0 (b := b42) (o := .cells ⟨[.int .i64 x40.Guest, .int .i64 x40.Rate, .int .i64 x40.Burst, .int .i64 x40.Have, .int .i64 x40.Tick]⟩ 25 (0, 0)) (by kernel_rfl))) ?_
        obtain ⟨r99, hr99, hm⟩ := gx_bind hm
        refine W_call 76 #[.int .i64 x40.Burst, .int .i64 1, .int .i64 1000] (by kernel_rfl) (by kernel_rfl) ?_
        refine (c_s_l1In w95 x40.Burst 1 1000 hr99).mono ?_
        rintro e_ w100 ⟨rfl, K101⟩
        have M102 := M97.call0 K101
        refine ⟨_, rfl, ?_⟩
        refine W_run 2 [(1, .pointer (some ⟨b42, 0, none⟩)), (16, .bool r99)] w100 (by kernel_rfl) ?_
        rcases gx_bif hm with ⟨hc103, hm⟩ | ⟨hc103, hm⟩
        · refine W_known 16 true (by kernel_rfl) hc103 ?_
          refine W_run 1 [(1, .pointer (some ⟨b42, 0, none⟩)), (16, .bool true), (17, .pointer (some ⟨b42, 3, none⟩))] w100 (by kernel_rfl) ?_
          refine W_val (.int .i64 x40.Have) w100 (by kernel_rfl) (E_load (e := 25) (fr := (0, 0)) _ _ false 1 b42 3 [.int .i64 x40.Guest, .int .i64 x40.Rate, .int .i64 x40.Burst, .int .i64 x40.Have, .int .i64 x40.Tick] (.int .i64 x40.Have) rfl (by kernel_rfl) (by kernel_rfl) (by kernel_rfl) (M102.blk 0 (b := b42) (o := .cells ⟨[.int .i64 x40.Guest, .int .i64 x40.Rate, .int .i64 x40.Burst, .int .i64 x40.Have, .int .i64 x40.Tick]⟩ 25 (0, 0)) (by kernel_rfl))) ?_
          refine W_run 1 [(1, .pointer (some ⟨b42, 0, none⟩)), (16, .bool true), (18, .int .i64 x40.Have), (19, .pointer (some ⟨b42, 2, none⟩))] w100 (by kernel_rfl) ?_
          refine W_val (.int .i64 x40.Burst) w100 (by kernel_rfl) (E_load (e := 25) (fr := (0, 0)) _ _ false 1 b42 2 [.int .i64 x40.Guest, .int .i64 x40.Rate, .int .i64 x40.Burst, .int .i64 x40.Have, .int .i64 x40.Tick] (.int .i64 x40.Burst) rfl (by kernel_rfl) (by kernel_rfl) (by kernel_rfl) (M102.blk 0 (b := b42) (o := .cells ⟨[.int .i64 x40.Guest, .int .i64 x40.Rate, .int .i64 x40.Burst, .int .i64 x40.Have, .int .i64 x40.Tick]⟩ 25 (0, 0)) (by kernel_rfl))) ?_
          obtain ⟨r104, hr104, hm⟩ := gx_bind hm
          refine W_call 76 #[.int .i64 x40.Have, .int .i64 0, .int .i64 x40.Burst] (by kernel_rfl) (by kernel_rfl) ?_
          refine (c_s_l1In w100 x40.Have 0 x40.Burst hr104).mono ?_
          rintro e_ w105 ⟨rfl, K106⟩
          have M107 := M102.call0 K106
          refine ⟨_, rfl, ?_⟩
          refine W_run 2 [(1, .pointer (some ⟨b42, 0, none⟩)), (23, .bool r104)] w105 (by kernel_rfl) ?_
          rcases gx_bif hm with ⟨hc108, hm⟩ | ⟨hc108, hm⟩
          · refine W_known 23 true (by kernel_rfl) hc108 ?_
            refine W_run 1 [(23, .bool true), (24, .pointer (some ⟨b42, 4, none⟩))] w105 (by kernel_rfl) ?_
            refine W_val (.int .i64 x40.Tick) w105 (by kernel_rfl) (E_load (e := 25) (fr := (0, 0)) _ _ false 1 b42 4 [.int .i64 x40.Guest, .int .i64 x40.Rate, .int .i64 x40.Burst, .int .i64 x40.Have, .int .i64 x40.Tick] (.int .i64 x40.Tick) rfl (by kernel_rfl) (by kernel_rfl) (by kernel_rfl) (M107.blk 0 (b := b42) (o := .cells ⟨[.int .i64 x40.Guest, .int .i64 x40.Rate, .int .i64 x40.Burst, .int .i64 x40.Have, .int .i64 x40.Tick]⟩ 25 (0, 0)) (by kernel_rfl))) ?_
            obtain ⟨r109, hr109, hm⟩ := gx_bind hm
            refine W_call 84 #[.int .i64 x40.Tick] (by kernel_rfl) (by kernel_rfl) ?_
            refine (c_s_l11Tick w105 x40.Tick hr109).mono ?_
            rintro e_ w110 ⟨rfl, K111⟩
            have M112 := M107.call0 K111
            refine ⟨_, rfl, ?_⟩
            refine W_run 2 [(2, .bool r109)] w110 (by kernel_rfl) ?_
            refine W_nil ?_
            obtain rfl := Option.some.inj hm
            exact N_meet fun a ha => ⟨M112.pick [] (by kernel_rfl), ha.sub (by kernel_rfl)⟩
          · refine W_known 23 false (by kernel_rfl) hc108 ?_
            refine W_run 5 [(2, .bool false)] w105 (by kernel_rfl) ?_
            refine W_nil ?_
            obtain rfl := Option.some.inj hm
            exact N_meet fun a ha => ⟨M107.pick [] (by kernel_rfl), ha.sub (by kernel_rfl)⟩
        · refine W_known 16 false (by kernel_rfl) hc103 ?_
          refine W_run 12 [(2, .bool false)] w100 (by kernel_rfl) ?_
          refine W_nil ?_
          obtain rfl := Option.some.inj hm
          exact N_meet fun a ha => ⟨M102.pick [] (by kernel_rfl), ha.sub (by kernel_rfl)⟩
      · refine W_known 11 false (by kernel_rfl) hc98 ?_
        refine W_run 17 [(2, .bool false)] w95 (by kernel_rfl) ?_
        refine W_nil ?_
        obtain rfl := Option.some.inj hm
        exact N_meet fun a ha => ⟨M97.pick [] (by kernel_rfl), ha.sub (by kernel_rfl)⟩
    · refine W_known 6 false (by kernel_rfl) hc93 ?_
      refine W_run 22 [(2, .bool false)] w90 (by kernel_rfl) ?_
      refine W_nil ?_
      obtain rfl := Option.some.inj hm
      exact N_meet fun a ha => ⟨M92.pick [] (by kernel_rfl), ha.sub (by kernel_rfl)⟩
  · intro a115 w113 ⟨M114, hS116⟩
    refine N_use hS116 ?_
    have hm := hm88
    refine N_then ?_
    refine G_ret ?_
    obtain rfl := Option.some.inj hm
    refine N_ret [.bool o86] (RVs_cons (RV_tmp (by kernel_rfl)) RVs_nil) ?_
    exact ⟨rfl, M114.pick [] (by kernel_rfl)⟩
theorem c_s_IsBucket (w : World) (x35 : Bucket) {r : Bool} (hm : M.s_IsBucket x35 = some r) :
    Calls Try.prog 12 #[.agg #[.int .i64 x35.Guest, .int .i64 x35.Rate, .int .i64 x35.Burst, .int .i64 x35.Have, .int .i64 x35.Tick]] w fun e w' => e = .returned (.bool r) ∧ Mem [] w w' [] := by
  unfold M.s_IsBucket at hm
  refine C_enter Try.func12 rfl (by kernel_rfl) ?_
  have M0 := Mem.refl [] w
  refine G_seq ?_
  refine G_region ?_
  refine W_new (fun b => .pointer (some ⟨b, 0, none⟩)) (.cells ⟨[.int .i64 x35.Guest, .int .i64 x35.Rate, .int .i64 x35.Burst, .int .i64 x35.Have, .int .i64 x35.Tick]⟩ 25 (0, 0)) M0 rfl (by kernel_rfl) (by kernel_rfl) ?_
  intro b37 w38 M39
  refine W_run 1 [(1, .pointer (some ⟨b37, 0, none⟩))] w38 (by kernel_rfl) ?_
  refine W_nil ?_
  refine N_then ?_
  refine G_seq ?_
  refine G_region ?_
  refine W_val (.agg #[.int .i64 x35.Guest, .int .i64 x35.Rate, .int .i64 x35.Burst, .int .i64 x35.Have, .int .i64 x35.Tick]) w38 (by kernel_rfl) (E_load (e := 25) (fr := (0, 0)) _ _ true 5 b37 0 [.int .i64 x35.Guest, .int .i64 x35.Rate, .int .i64 x35.Burst, .int .i64 x35.Have, .int .i64 x35.Tick] (.agg #[.int .i64 x35.Guest, .int .i64 x35.Rate, .int .i64 x35.Burst, .int .i64 x35.Have, .int .i64 x35.Tick]) rfl (by kernel_rfl) (by kernel_rfl) (by kernel_rfl) (M39.blk 0 (b := b37) (o := .cells ⟨[.int .i64 x35.Guest, .int .i64 x35.Rate, .int .i64 x35.Burst, .int .i64 x35.Have, .int .i64 x35.Tick]⟩ 25 (0, 0)) (by kernel_rfl))) ?_
  obtain ⟨r117, hr117, hm⟩ := gx_bind hm
  refine W_call 56 #[.agg #[.int .i64 x35.Guest, .int .i64 x35.Rate, .int .i64 x35.Burst, .int .i64 x35.Have, .int .i64 x35.Tick]] (by kernel_rfl) (by kernel_rfl) ?_
  refine (c_s_l23One w38 x35 hr117).mono ?_
  rintro e_ w118 ⟨rfl, K119⟩
  have M120 := M39.call0 K119
  refine ⟨_, rfl, ?_⟩
  refine W_run 1 [(2, .bool r117)] w118 (by kernel_rfl) ?_
  refine W_nil ?_
  refine N_then ?_
  refine G_ret ?_
  obtain rfl := Option.some.inj hm
  refine N_ret [.bool r117] (RVs_cons (RV_tmp (by kernel_rfl)) RVs_nil) ?_
  exact ⟨rfl, M120.pick [] (by kernel_rfl)⟩
theorem c_i_inside (w : World) (x135 : Int) (x136 : Int) (x137 : Int) {r : Bool} (hm : M.i_inside x135 x136 x137 = some r) :
    Calls Try.prog 58 #[.int .i64 x135, .int .i64 x136, .int .i64 x137] w fun e w' => e = .returned (.bool r) ∧ Mem [] w w' [] := by
  unfold M.i_inside at hm
  refine C_enter Try.func58 rfl (by kernel_rfl) ?_
  have M0 := Mem.refl [] w
  refine G_seq ?_
  refine G_region ?_
  refine W_run 1 [(0, .int .i64 x135), (1, .int .i64 x136), (2, .int .i64 x137)] w (by kernel_rfl) ?_
  refine W_nil ?_
  refine N_then ?_
  refine G_seq ?_
  obtain ⟨o139, ho140, hm141⟩ := gx_bind hm
  refine G_meet (fun a w' => Mem [] w w' [] ∧ Sat Try.f58.ntmps [(6, .bool o139)] a) ?_ ?_
  · have hm := ho140
    refine G_region ?_
    refine W_run 4 [(0, .int .i64 x135), (2, .int .i64 x137), (10, .bool (decide (x135 ≥ x136)))] w (by kernel_rfl) ?_
    rcases gx_bif hm with ⟨hc142, hm⟩ | ⟨hc142, hm⟩
    · refine W_known 10 true (by kernel_rfl) hc142 ?_
      refine W_run 5 [(6, .bool (decide (x135 ≤ x137)))] w (by kernel_rfl) ?_
      refine W_nil ?_
      obtain rfl := Option.some.inj hm
      exact N_meet fun a ha => ⟨M0.pick [] (by kernel_rfl), ha.sub (by kernel_rfl)⟩
    · refine W_known 10 false (by kernel_rfl) hc142 ?_
      refine W_run 5 [(6, .bool false)] w (by kernel_rfl) ?_
      refine W_nil ?_
      obtain rfl := Option.some.inj hm
      exact N_meet fun a ha => ⟨M0.pick [] (by kernel_rfl), ha.sub (by kernel_rfl)⟩
  · intro a145 w143 ⟨M144, hS146⟩
    refine N_use hS146 ?_
    have hm := hm141
    refine N_then ?_
    refine G_ret ?_
    obtain rfl := Option.some.inj hm
    refine N_ret [.bool o139] (RVs_cons (RV_tmp (by kernel_rfl)) RVs_nil) ?_
    exact ⟨rfl, M144.pick [] (by kernel_rfl)⟩
theorem c_i_isGuest (w : World) (x134 : Int) {r : Bool} (hm : M.i_isGuest x134 = some r) :
    Calls Try.prog 57 #[.int .i64 x134] w fun e w' => e = .returned (.bool r) ∧ Mem [] w w' [] := by
  unfold M.i_isGuest at hm
  refine C_enter Try.func57 rfl (by kernel_rfl) ?_
  have M0 := Mem.refl [] w
  refine G_seq ?_
  refine G_region ?_
  refine W_run 1 [(0, .int .i64 x134)] w (by kernel_rfl) ?_
  refine W_nil ?_
  refine N_then ?_
  refine G_seq ?_
  refine G_region ?_
  refine W_run 1 [(3, .int .i64 x134)] w (by kernel_rfl) ?_
  obtain ⟨r147, hr147, hm⟩ := gx_bind hm
  refine W_call 58 #[.int .i64 x134, .int .i64 1, .int .i64 4] (by kernel_rfl) (by kernel_rfl) ?_
  refine (c_i_inside w x134 1 4 hr147).mono ?_
  rintro e_ w148 ⟨rfl, K149⟩
  have M150 := M0.call0 K149
  refine ⟨_, rfl, ?_⟩
  refine W_run 1 [(2, .bool r147)] w148 (by kernel_rfl) ?_
  refine W_nil ?_
  refine N_then ?_
  refine G_ret ?_
  obtain rfl := Option.some.inj hm
  refine N_ret [.bool r147] (RVs_cons (RV_tmp (by kernel_rfl)) RVs_nil) ?_
  exact ⟨rfl, M150.pick [] (by kernel_rfl)⟩
theorem c_i_isTick (w : World) (x171 : Int) {r : Bool} (hm : M.i_isTick x171 = some r) :
    Calls Try.prog 59 #[.int .i64 x171] w fun e w' => e = .returned (.bool r) ∧ Mem [] w w' [] := by
  unfold M.i_isTick at hm
  refine C_enter Try.func59 rfl (by kernel_rfl) ?_
  have M0 := Mem.refl [] w
  refine G_seq ?_
  refine G_region ?_
  refine W_run 1 [(0, .int .i64 x171)] w (by kernel_rfl) ?_
  refine W_nil ?_
  refine N_then ?_
  refine G_seq ?_
  refine G_region ?_
  refine W_run 1 [(3, .int .i64 x171)] w (by kernel_rfl) ?_
  obtain ⟨r172, hr172, hm⟩ := gx_bind hm
  refine W_call 58 #[.int .i64 x171, .int .i64 0, .int .i64 100000] (by kernel_rfl) (by kernel_rfl) ?_
  refine (c_i_inside w x171 0 100000 hr172).mono ?_
  rintro e_ w173 ⟨rfl, K174⟩
  have M175 := M0.call0 K174
  refine ⟨_, rfl, ?_⟩
  refine W_run 1 [(2, .bool r172)] w173 (by kernel_rfl) ?_
  refine W_nil ?_
  refine N_then ?_
  refine G_ret ?_
  obtain rfl := Option.some.inj hm
  refine N_ret [.bool r172] (RVs_cons (RV_tmp (by kernel_rfl)) RVs_nil) ?_
  exact ⟨rfl, M175.pick [] (by kernel_rfl)⟩
theorem c_i_IsBucket (w : World) (x129 : Bucket) {r : Bool} (hm : M.i_IsBucket x129 = some r) :
    Calls Try.prog 14 #[.agg #[.int .i64 x129.Guest, .int .i64 x129.Rate, .int .i64 x129.Burst, .int .i64 x129.Have, .int .i64 x129.Tick]] w fun e w' => e = .returned (.bool r) ∧ Mem [] w w' [] := by
  unfold M.i_IsBucket at hm
  refine C_enter Try.func14 rfl (by kernel_rfl) ?_
  have M0 := Mem.refl [] w
  refine G_seq ?_
  refine G_region ?_
  refine W_new (fun b => .pointer (some ⟨b, 0, none⟩)) (.cells ⟨[.int .i64 x129.Guest, .int .i64 x129.Rate, .int .i64 x129.Burst, .int .i64 x129.Have, .int .i64 x129.Tick]⟩ 25 (0, 0)) M0 rfl (by kernel_rfl) (by kernel_rfl) ?_
  intro b131 w132 M133
  refine W_run 1 [(1, .pointer (some ⟨b131, 0, none⟩))] w132 (by kernel_rfl) ?_
  refine W_nil ?_
  refine N_then ?_
  refine G_seq ?_
  obtain ⟨o180, ho181, hm182⟩ := gx_bind hm
  refine G_meet (fun a w' => Mem [] w w' [] ∧ Sat Try.f14.ntmps [(2, .bool o180)] a) ?_ ?_
  · have hm := ho181
    refine G_region ?_
    refine W_run 1 [(1, .pointer (some ⟨b131, 0, none⟩)), (3, .pointer (some ⟨b131, 0, none⟩))] w132 (by kernel_rfl) ?_
    refine W_val (.int .i64 x129.Guest) w132 (by kernel_rfl) (E_load (e := 25) (fr := (0, 0)) _ _ false 1 b131 0 [.int .i64 x129.Guest, .int .i64 x129.Rate, .int .i64 x129.Burst, .int .i64 x129.Have, .int .i64 x129.Tick] (.int .i64 x129.Guest) rfl (by kernel_rfl) (by kernel_rfl) (by kernel_rfl) (M133.blk 0 (b := b131) (o := .cells ⟨[.int .i64 x129.Guest, .int .i64 x129.Rate, .int .i64 x129.Burst, .int .i64 x129.Have, .int .i64 x129.Tick]⟩ 25 (0, 0)) (by kernel_rfl))) ?_
    obtain ⟨r183, hr183, hm⟩ := gx_bind hm
    refine W_call 57 #[.int .i64 x129.Guest] (by kernel_rfl) (by kernel_rfl) ?_
    refine (c_i_isGuest w132 x129.Guest hr183).mono ?_
    rintro e_ w184 ⟨rfl, K185⟩
    have M186 := M133.call0 K185
    refine ⟨_, rfl, ?_⟩
    refine W_run 1 [(1, .pointer (some ⟨b131, 0, none⟩)), (6, .bool r183)] w184 (by kernel_rfl) ?_
    rcases gx_bif hm with ⟨hc187, hm⟩ | ⟨hc187, hm⟩
    · refine W_known 6 true (by kernel_rfl) hc187 ?_
      refine W_run 1 [(1, .pointer (some ⟨b131, 0, none⟩)), (6, .bool true), (7, .pointer (some ⟨b131, 1, none⟩))] w184 (by kernel_rfl) ?_
      refine W_val (.int .i64 x129.Rate) w184 (by kernel_rfl) (E_load (e := 25) (fr := (0, 0)) _ _ false 1 b131 1 [.int .i64 x129.Guest, .int .i64 x129.Rate, .int .i64 x129.Burst, .int .i64 x129.Have, .int .i64 x129.Tick] (.int .i64 x129.Rate) rfl (by kernel_rfl) (by kernel_rfl) (by kernel_rfl) (M186.blk 0 (b := b131) (o := .cells ⟨[.int .i64 x129.Guest, .int .i64 x129.Rate, .int .i64 x129.Burst, .int .i64 x129.Have, .int .i64 x129.Tick]⟩ 25 (0, 0)) (by kernel_rfl))) ?_
      obtain ⟨r188, hr188, hm⟩ := gx_bind hm
      refine W_call 58 #[.int .i64 x129.Rate, .int .i64 0, .int .i64 100] (by kernel_rfl) (by kernel_rfl) ?_
      refine (c_i_inside w184 x129.Rate 0 100 hr188).mono ?_
      rintro e_ w189 ⟨rfl, K190⟩
      have M191 := M186.call0 K190
      refine ⟨_, rfl, ?_⟩
      refine W_run 2 [(1, .pointer (some ⟨b131, 0, none⟩)), (11, .bool r188)] w189 (by kernel_rfl) ?_
      rcases gx_bif hm with ⟨hc192, hm⟩ | ⟨hc192, hm⟩
      · refine W_known 11 true (by kernel_rfl) hc192 ?_
        refine W_run 1 [(1, .pointer (some ⟨b131, 0, none⟩)), (11, .bool true), (12, .pointer (some ⟨b131, 2, none⟩))] w189 (by kernel_rfl) ?_
        refine W_val (.int .i64 x129.Burst) w189 (by kernel_rfl) (E_load (e := 25) (fr := (0, 0)) _ _ false 1 b131 2 [.int .i64 x129.Guest, .int .i64 x129.Rate, .int .i64 x129.Burst, .int .i64 x129.Have, .int .i64 x129.Tick] (.int .i64 x129.Burst) rfl (by kernel_rfl) (by kernel_rfl) (by kernel_rfl) (M191.blk 0 (b := b131) (o := .cells ⟨[.int .i64 x129.Guest, .int .i64 x129.Rate, .int .i64 x129.Burst, .int .i64 x129.Have, .int .i64 x129.Tick]⟩ 25 (0, 0)) (by kernel_rfl))) ?_
        obtain ⟨r193, hr193, hm⟩ := gx_bind hm
        refine W_call 58 #[.int .i64 x129.Burst, .int .i64 1, .int .i64 1000] (by kernel_rfl) (by kernel_rfl) ?_
        refine (c_i_inside w189 x129.Burst 1 1000 hr193).mono ?_
        rintro e_ w194 ⟨rfl, K195⟩
        have M196 := M191.call0 K195
        refine ⟨_, rfl, ?_⟩
        refine W_run 2 [(1, .pointer (some ⟨b131, 0, none⟩)), (16, .bool r193)] w194 (by kernel_rfl) ?_
        rcases gx_bif hm with ⟨hc197, hm⟩ | ⟨hc197, hm⟩
        · refine W_known 16 true (by kernel_rfl) hc197 ?_
          refine W_run 1 [(1, .pointer (some ⟨b131, 0, none⟩)), (16, .bool true), (17, .pointer (some ⟨b131, 3, none⟩))] w194 (by kernel_rfl) ?_
          refine W_val (.int .i64 x129.Have) w194 (by kernel_rfl) (E_load (e := 25) (fr := (0, 0)) _ _ false 1 b131 3 [.int .i64 x129.Guest, .int .i64 x129.Rate, .int .i64 x129.Burst, .int .i64 x129.Have, .int .i64 x129.Tick] (.int .i64 x129.Have) rfl (by kernel_rfl) (by kernel_rfl) (by kernel_rfl) (M196.blk 0 (b := b131) (o := .cells ⟨[.int .i64 x129.Guest, .int .i64 x129.Rate, .int .i64 x129.Burst, .int .i64 x129.Have, .int .i64 x129.Tick]⟩ 25 (0, 0)) (by kernel_rfl))) ?_
          refine W_run 1 [(1, .pointer (some ⟨b131, 0, none⟩)), (16, .bool true), (18, .int .i64 x129.Have), (19, .pointer (some ⟨b131, 2, none⟩))] w194 (by kernel_rfl) ?_
          refine W_val (.int .i64 x129.Burst) w194 (by kernel_rfl) (E_load (e := 25) (fr := (0, 0)) _ _ false 1 b131 2 [.int .i64 x129.Guest, .int .i64 x129.Rate, .int .i64 x129.Burst, .int .i64 x129.Have, .int .i64 x129.Tick] (.int .i64 x129.Burst) rfl (by kernel_rfl) (by kernel_rfl) (by kernel_rfl) (M196.blk 0 (b := b131) (o := .cells ⟨[.int .i64 x129.Guest, .int .i64 x129.Rate, .int .i64 x129.Burst, .int .i64 x129.Have, .int .i64 x129.Tick]⟩ 25 (0, 0)) (by kernel_rfl))) ?_
          obtain ⟨r198, hr198, hm⟩ := gx_bind hm
          refine W_call 58 #[.int .i64 x129.Have, .int .i64 0, .int .i64 x129.Burst] (by kernel_rfl) (by kernel_rfl) ?_
          refine (c_i_inside w194 x129.Have 0 x129.Burst hr198).mono ?_
          rintro e_ w199 ⟨rfl, K200⟩
          have M201 := M196.call0 K200
          refine ⟨_, rfl, ?_⟩
          refine W_run 2 [(1, .pointer (some ⟨b131, 0, none⟩)), (23, .bool r198)] w199 (by kernel_rfl) ?_
          rcases gx_bif hm with ⟨hc202, hm⟩ | ⟨hc202, hm⟩
          · refine W_known 23 true (by kernel_rfl) hc202 ?_
            refine W_run 1 [(23, .bool true), (24, .pointer (some ⟨b131, 4, none⟩))] w199 (by kernel_rfl) ?_
            refine W_val (.int .i64 x129.Tick) w199 (by kernel_rfl) (E_load (e := 25) (fr := (0, 0)) _ _ false 1 b131 4 [.int .i64 x129.Guest, .int .i64 x129.Rate, .int .i64 x129.Burst, .int .i64 x129.Have, .int .i64 x129.Tick] (.int .i64 x129.Tick) rfl (by kernel_rfl) (by kernel_rfl) (by kernel_rfl) (M201.blk 0 (b := b131) (o := .cells ⟨[.int .i64 x129.Guest, .int .i64 x129.Rate, .int .i64 x129.Burst, .int .i64 x129.Have, .int .i64 x129.Tick]⟩ 25 (0, 0)) (by kernel_rfl))) ?_
            obtain ⟨r203, hr203, hm⟩ := gx_bind hm
            refine W_call 59 #[.int .i64 x129.Tick] (by kernel_rfl) (by kernel_rfl) ?_
            refine (c_i_isTick w199 x129.Tick hr203).mono ?_
            rintro e_ w204 ⟨rfl, K205⟩
            have M206 := M201.call0 K205
            refine ⟨_, rfl, ?_⟩
            refine W_run 2 [(2, .bool r203)] w204 (by kernel_rfl) ?_
            refine W_nil ?_
            obtain rfl := Option.some.inj hm
            exact N_meet fun a ha => ⟨M206.pick [] (by kernel_rfl), ha.sub (by kernel_rfl)⟩
          · refine W_known 23 false (by kernel_rfl) hc202 ?_
            refine W_run 5 [(2, .bool false)] w199 (by kernel_rfl) ?_
            refine W_nil ?_
            obtain rfl := Option.some.inj hm
            exact N_meet fun a ha => ⟨M201.pick [] (by kernel_rfl), ha.sub (by kernel_rfl)⟩
        · refine W_known 16 false (by kernel_rfl) hc197 ?_
          refine W_run 12 [(2, .bool false)] w194 (by kernel_rfl) ?_
          refine W_nil ?_
          obtain rfl := Option.some.inj hm
          exact N_meet fun a ha => ⟨M196.pick [] (by kernel_rfl), ha.sub (by kernel_rfl)⟩
      · refine W_known 11 false (by kernel_rfl) hc192 ?_
        refine W_run 17 [(2, .bool false)] w189 (by kernel_rfl) ?_
        refine W_nil ?_
        obtain rfl := Option.some.inj hm
        exact N_meet fun a ha => ⟨M191.pick [] (by kernel_rfl), ha.sub (by kernel_rfl)⟩
    · refine W_known 6 false (by kernel_rfl) hc187 ?_
      refine W_run 22 [(2, .bool false)] w184 (by kernel_rfl) ?_
      refine W_nil ?_
      obtain rfl := Option.some.inj hm
      exact N_meet fun a ha => ⟨M186.pick [] (by kernel_rfl), ha.sub (by kernel_rfl)⟩
  · intro a209 w207 ⟨M208, hS210⟩
    refine N_use hS210 ?_
    have hm := hm182
    refine N_then ?_
    refine G_ret ?_
    obtain rfl := Option.some.inj hm
    refine N_ret [.bool o180] (RVs_cons (RV_tmp (by kernel_rfl)) RVs_nil) ?_
    exact ⟨rfl, M208.pick [] (by kernel_rfl)⟩
theorem c_l_FnExactIsBucket (w : World) (x1 : Bucket) {r : Bool} (hm : M.l_FnExactIsBucket x1 = some r) :
    Calls Try.prog 3 #[.agg #[.int .i64 x1.Guest, .int .i64 x1.Rate, .int .i64 x1.Burst, .int .i64 x1.Have, .int .i64 x1.Tick]] w fun e w' => e = .returned (.bool r) ∧ Mem [] w w' [] := by
  unfold M.l_FnExactIsBucket at hm
  refine C_enter Try.func3 rfl (by kernel_rfl) ?_
  have M0 := Mem.refl [] w
  refine G_seq ?_
  refine G_region ?_
  refine W_new (fun b => .pointer (some ⟨b, 0, none⟩)) (.cells ⟨[.int .i64 x1.Guest, .int .i64 x1.Rate, .int .i64 x1.Burst, .int .i64 x1.Have, .int .i64 x1.Tick]⟩ 23 (0, 0)) M0 rfl (by kernel_rfl) (by kernel_rfl) ?_
  intro b3 w4 M5
  refine W_run 1 [(1, .pointer (some ⟨b3, 0, none⟩))] w4 (by kernel_rfl) ?_
  refine W_nil ?_
  refine N_then ?_
  refine G_seq ?_
  refine G_region ?_
  refine W_val (.agg #[.int .i64 x1.Guest, .int .i64 x1.Rate, .int .i64 x1.Burst, .int .i64 x1.Have, .int .i64 x1.Tick]) w4 (by kernel_rfl) (E_load (e := 23) (fr := (0, 0)) _ _ true 5 b3 0 [.int .i64 x1.Guest, .int .i64 x1.Rate, .int .i64 x1.Burst, .int .i64 x1.Have, .int .i64 x1.Tick] (.agg #[.int .i64 x1.Guest, .int .i64 x1.Rate, .int .i64 x1.Burst, .int .i64 x1.Have, .int .i64 x1.Tick]) rfl (by kernel_rfl) (by kernel_rfl) (by kernel_rfl) (M5.blk 0 (b := b3) (o := .cells ⟨[.int .i64 x1.Guest, .int .i64 x1.Rate, .int .i64 x1.Burst, .int .i64 x1.Have, .int .i64 x1.Tick]⟩ 23 (0, 0)) (by kernel_rfl))) ?_
  obtain ⟨r31, hr31, hm⟩ := gx_bind hm
  refine W_call 13 #[.agg #[.int .i64 x1.Guest, .int .i64 x1.Rate, .int .i64 x1.Burst, .int .i64 x1.Have, .int .i64 x1.Tick]] (by kernel_rfl) (by kernel_rfl) ?_
  refine (c_l_toBucket w4 x1 hr31).mono ?_
  rintro e_ w32 ⟨rfl, K33⟩
  have M34 := M5.call0 K33
  refine ⟨_, rfl, ?_⟩
  obtain ⟨r121, hr121, hm⟩ := gx_bind hm
  refine W_call 12 #[.agg #[.int .i64 r31.Guest, .int .i64 r31.Rate, .int .i64 r31.Burst, .int .i64 r31.Have, .int .i64 r31.Tick]] (by kernel_rfl) (by kernel_rfl) ?_
  refine (c_s_IsBucket w32 r31 hr121).mono ?_
  rintro e_ w122 ⟨rfl, K123⟩
  have M124 := M34.call0 K123
  refine ⟨_, rfl, ?_⟩
  refine W_run 1 [(1, .pointer (some ⟨b3, 0, none⟩)), (3, .bool r121)] w122 (by kernel_rfl) ?_
  refine W_nil ?_
  refine N_then ?_
  refine G_seq ?_
  refine G_region ?_
  refine W_val (.agg #[.int .i64 x1.Guest, .int .i64 x1.Rate, .int .i64 x1.Burst, .int .i64 x1.Have, .int .i64 x1.Tick]) w122 (by kernel_rfl) (E_load (e := 23) (fr := (0, 0)) _ _ true 5 b3 0 [.int .i64 x1.Guest, .int .i64 x1.Rate, .int .i64 x1.Burst, .int .i64 x1.Have, .int .i64 x1.Tick] (.agg #[.int .i64 x1.Guest, .int .i64 x1.Rate, .int .i64 x1.Burst, .int .i64 x1.Have, .int .i64 x1.Tick]) rfl (by kernel_rfl) (by kernel_rfl) (by kernel_rfl) (M124.blk 0 (b := b3) (o := .cells ⟨[.int .i64 x1.Guest, .int .i64 x1.Rate, .int .i64 x1.Burst, .int .i64 x1.Have, .int .i64 x1.Tick]⟩ 23 (0, 0)) (by kernel_rfl))) ?_
  obtain ⟨r125, hr125, hm⟩ := gx_bind hm
  refine W_call 13 #[.agg #[.int .i64 x1.Guest, .int .i64 x1.Rate, .int .i64 x1.Burst, .int .i64 x1.Have, .int .i64 x1.Tick]] (by kernel_rfl) (by kernel_rfl) ?_
  refine (c_l_toBucket w122 x1 hr125).mono ?_
  rintro e_ w126 ⟨rfl, K127⟩
  have M128 := M124.call0 K127
  refine ⟨_, rfl, ?_⟩
  obtain ⟨r211, hr211, hm⟩ := gx_bind hm
  refine W_call 14 #[.agg #[.int .i64 r125.Guest, .int .i64 r125.Rate, .int .i64 r125.Burst, .int .i64 r125.Have, .int .i64 r125.Tick]] (by kernel_rfl) (by kernel_rfl) ?_
  refine (c_i_IsBucket w126 r125 hr211).mono ?_
  rintro e_ w212 ⟨rfl, K213⟩
  have M214 := M128.call0 K213
  refine ⟨_, rfl, ?_⟩
  refine W_run 1 [(3, .bool r121), (4, .bool r211)] w212 (by kernel_rfl) ?_
  refine W_nil ?_
  refine N_then ?_
  refine G_seq ?_
  refine G_seq ?_
  refine G_region ?_
  refine W_run 3 [(13, .bool (!(r211 == r121)))] w212 (by kernel_rfl) ?_
  refine W_nil ?_
  refine N_then ?_
  rcases gx_bif hm with ⟨hc215, hm⟩ | ⟨hc215, hm⟩
  · refine G_cond_t (b := (!(r211 == r121))) hc215 (by kernel_rfl) ?_
    refine G_seq ?_
    refine G_region ?_
    refine W_run 1 [(2, .bool false)] w212 (by kernel_rfl) ?_
    refine W_nil ?_
    refine N_then ?_
    refine G_ret ?_
    refine N_then_ret ?_
    obtain rfl := Option.some.inj hm
    refine N_ret [.bool false] (RVs_cons (RV_tmp (by kernel_rfl)) RVs_nil) ?_
    exact ⟨rfl, M214.pick [] (by kernel_rfl)⟩
  · refine G_cond_f (b := (!(r211 == r121))) hc215 (by kernel_rfl) ?_
    refine G_skip ?_
    refine N_then ?_
    refine G_seq ?_
    refine G_region ?_
    refine W_run 1 [(2, .bool true)] w212 (by kernel_rfl) ?_
    refine W_nil ?_
    refine N_then ?_
    refine G_ret ?_
    obtain rfl := Option.some.inj hm
    refine N_ret [.bool true] (RVs_cons (RV_tmp (by kernel_rfl)) RVs_nil) ?_
    exact ⟨rfl, M214.pick [] (by kernel_rfl)⟩
theorem c_l_szRegionS (w : World) (x226 : List Region) (p228 : Option Addr) (c229 : Nat) (h230 : rdS encRegion w x226 p228 c229) (x231 : Int) {r : Int} (hm : M.l_szRegionS x226 x231 = some r) :
    Calls Try.prog 15 #[.slice p228 x226.length c229, .int .i64 x231] w fun e w' => e = .returned (.int .i64 r) ∧ Mem [] w w' [] := by
  unfold M.l_szRegionS at hm
  refine C_enter Try.func15 rfl (by kernel_rfl) ?_
  have M0 := Mem.refl [] w
  refine G_seq ?_
  refine G_region ?_
  refine W_run 1 [(0, .slice p228 x226.length c229), (1, .int .i64 x231)] w (by kernel_rfl) ?_
  refine W_nil ?_
  refine N_then ?_
  refine G_seq ?_
  refine G_region ?_
  refine W_run 5 [(1, .int .i64 (w64 (x231 - (x226.length : Int))))] w (by kernel_rfl) ?_
  refine W_nil ?_
  refine N_then ?_
  refine G_seq ?_
  refine G_seq ?_
  refine G_region ?_
  refine W_run 2 [(1, .int .i64 (w64 (x231 - (x226.length : Int)))), (10, .bool (decide ((w64 (x231 - (x226.length : Int))) < 0)))] w (by kernel_rfl) ?_
  refine W_nil ?_
  refine N_then ?_
  rcases gx_bif hm with ⟨hc232, hm⟩ | ⟨hc232, hm⟩
  · refine G_cond_t (b := (decide ((w64 (x231 - (x226.length : Int))) < 0))) hc232 (by kernel_rfl) ?_
    refine G_seq ?_
    refine G_region ?_
    refine W_run 1 [(4, .int .i64 (-1))] w (by kernel_rfl) ?_
    refine W_nil ?_
    refine N_then ?_
    refine G_ret ?_
    refine N_then_ret ?_
    obtain rfl := Option.some.inj hm
    refine N_ret [.int .i64 (-1)] (RVs_cons (RV_tmp (by kernel_rfl)) RVs_nil) ?_
    exact ⟨rfl, M0.pick [] (by kernel_rfl)⟩
  · refine G_cond_f (b := (decide ((w64 (x231 - (x226.length : Int))) < 0))) hc232 (by kernel_rfl) ?_
    refine G_skip ?_
    refine N_then ?_
    refine G_seq ?_
    refine G_region ?_
    refine W_run 2 [(4, .int .i64 (w64 (x231 - (x226.length : Int))))] w (by kernel_rfl) ?_
    refine W_nil ?_
    refine N_then ?_
    refine G_ret ?_
    obtain rfl := Option.some.inj hm
    refine N_ret [.int .i64 (w64 (x231 - (x226.length : Int)))] (RVs_cons (RV_tmp (by kernel_rfl)) RVs_nil) ?_
    exact ⟨rfl, M0.pick [] (by kernel_rfl)⟩
theorem c_l_toRegion (w : World) (x260 : Region) {r : Region} (hm : M.l_toRegion x260 = some r) :
    Calls Try.prog 35 #[.agg #[.int .i64 x260.Base, .int .i64 x260.Size, .int .i64 x260.Kind, .int .i64 x260.Unit]] w fun e w' => e = .returned (.agg #[.int .i64 r.Base, .int .i64 r.Size, .int .i64 r.Kind, .int .i64 r.Unit]) ∧ Mem [] w w' [] := by
  unfold M.l_toRegion at hm
  refine C_enter Try.func35 rfl (by kernel_rfl) ?_
  have M0 := Mem.refl [] w
  refine G_seq ?_
  refine G_region ?_
  refine W_new (fun b => .pointer (some ⟨b, 0, none⟩)) (.cells ⟨[.int .i64 x260.Base, .int .i64 x260.Size, .int .i64 x260.Kind, .int .i64 x260.Unit]⟩ 56 (0, 0)) M0 rfl (by kernel_rfl) (by kernel_rfl) ?_
  intro b262 w263 M264
  refine W_new (fun b => .pointer (some ⟨b, 0, none⟩)) (.cells ⟨[.int .i64 0, .int .i64 0, .int .i64 0, .int .i64 0]⟩ 59 (0, 0)) M264 rfl (by kernel_rfl) (by kernel_rfl) ?_
  intro b266 w267 M268
  refine W_nil ?_
  refine N_then ?_
  refine G_seq ?_
  refine G_region ?_
  refine W_new (fun b => .pointer (some ⟨b, 0, none⟩)) (.cells ⟨[.int .i64 0, .int .i64 0, .int .i64 0, .int .i64 0]⟩ 59 (0, 0)) M268 rfl (by kernel_rfl) (by kernel_rfl) ?_
  intro b270 w271 M272
  refine W_nil ?_
  refine N_then ?_
  refine G_seq ?_
  refine G_region ?_
  refine W_run 1 [(1, .pointer (some ⟨b262, 0, none⟩)), (2, .pointer (some ⟨b266, 0, none⟩)), (3, .pointer (some ⟨b270, 0, none⟩)), (4, .pointer (some ⟨b262, 0, none⟩))] w271 (by kernel_rfl) ?_
  refine W_val (.int .i64 x260.Base) w271 (by kernel_rfl) (E_load (e := 56) (fr := (0, 0)) _ _ false 1 b262 0 [.int .i64 x260.Base, .int .i64 x260.Size, .int .i64 x260.Kind, .int .i64 x260.Unit] (.int .i64 x260.Base) rfl (by kernel_rfl) (by kernel_rfl) (by kernel_rfl) (M272.blk 0 (b := b262) (o := .cells ⟨[.int .i64 x260.Base, .int .i64 x260.Size, .int .i64 x260.Kind, .int .i64 x260.Unit]⟩ 56 (0, 0)) (by kernel_rfl))) ?_
  refine W_run 1 [(1, .pointer (some ⟨b262, 0, none⟩)), (2, .pointer (some ⟨b266, 0, none⟩)), (3, .pointer (some ⟨b270, 0, none⟩)), (5, .int .i64 x260.Base), (6, .pointer (some ⟨b270, 0, none⟩))] w271 (by kernel_rfl) ?_
  refine W_store _ _ _ false 1 b270 0 [.int .i64 0, .int .i64 0, .int .i64 0, .int .i64 0] 59 (.int .i64 x260.Base) 2 [.int .i64 x260.Base, .int .i64 0, .int .i64 0, .int .i64 0] M272 (by kernel_rfl) rfl (by kernel_rfl) (by kernel_rfl) (by kernel_rfl) (by kernel_rfl) (by kernel_rfl) (by kernel_rfl) (by kernel_rfl) (by kernel_rfl) ?_
  intro w273 M274
  refine W_nil ?_
  refine N_then ?_
  refine G_seq ?_
  refine G_region ?_
  refine W_run 1 [(1, .pointer (some ⟨b262, 0, none⟩)), (2, .pointer (some ⟨b266, 0, none⟩)), (3, .pointer (some ⟨b270, 0, none⟩)), (7, .pointer (some ⟨b262, 1, none⟩))] w273 (by kernel_rfl) ?_
  refine W_val (.int .i64 x260.Size) w273 (by kernel_rfl) (E_load (e := 56) (fr := (0, 0)) _ _ false 1 b262 1 [.int .i64 x260.Base, .int .i64 x260.Size, .int .i64 x260.Kind, .int .i64 x260.Unit] (.int .i64 x260.Size) rfl (by kernel_rfl) (by kernel_rfl) (by kernel_rfl) (M274.blk 0 (b := b262) (o := .cells ⟨[.int .i64 x260.Base, .int .i64 x260.Size, .int .i64 x260.Kind, .int .i64 x260.Unit]⟩ 56 (0, 0)) (by kernel_rfl))) ?_
  refine W_run 1 [(1, .pointer (some ⟨b262, 0, none⟩)), (2, .pointer (some ⟨b266, 0, none⟩)), (3, .pointer (some ⟨b270, 0, none⟩)), (8, .int .i64 x260.Size), (9, .pointer (some ⟨b270, 1, none⟩))] w273 (by kernel_rfl) ?_
  refine W_store _ _ _ false 1 b270 1 [.int .i64 x260.Base, .int .i64 0, .int .i64 0, .int .i64 0] 59 (.int .i64 x260.Size) 2 [.int .i64 x260.Base, .int .i64 x260.Size, .int .i64 0, .int .i64 0] M274 (by kernel_rfl) rfl (by kernel_rfl) (by kernel_rfl) (by kernel_rfl) (by kernel_rfl) (by kernel_rfl) (by kernel_rfl) (by kernel_rfl) (by kernel_rfl) ?_
  intro w275 M276
  refine W_nil ?_
  refine N_then ?_
  refine G_seq ?_
  refine G_region ?_
  refine W_run 1 [(1, .pointer (some ⟨b262, 0, none⟩)), (2, .pointer (some ⟨b266, 0, none⟩)), (3, .pointer (some ⟨b270, 0, none⟩)), (10, .pointer (some ⟨b262, 2, none⟩))] w275 (by kernel_rfl) ?_
  refine W_val (.int .i64 x260.Kind) w275 (by kernel_rfl) (E_load (e := 56) (fr := (0, 0)) _ _ false 1 b262 2 [.int .i64 x260.Base, .int .i64 x260.Size, .int .i64 x260.Kind, .int .i64 x260.Unit] (.int .i64 x260.Kind) rfl (by kernel_rfl) (by kernel_rfl) (by kernel_rfl) (M276.blk 0 (b := b262) (o := .cells ⟨[.int .i64 x260.Base, .int .i64 x260.Size, .int .i64 x260.Kind, .int .i64 x260.Unit]⟩ 56 (0, 0)) (by kernel_rfl))) ?_
  refine W_run 1 [(1, .pointer (some ⟨b262, 0, none⟩)), (2, .pointer (some ⟨b266, 0, none⟩)), (3, .pointer (some ⟨b270, 0, none⟩)), (11, .int .i64 x260.Kind), (12, .pointer (some ⟨b270, 2, none⟩))] w275 (by kernel_rfl) ?_
  refine W_store _ _ _ false 1 b270 2 [.int .i64 x260.Base, .int .i64 x260.Size, .int .i64 0, .int .i64 0] 59 (.int .i64 x260.Kind) 2 [.int .i64 x260.Base, .int .i64 x260.Size, .int .i64 x260.Kind, .int .i64 0] M276 (by kernel_rfl) rfl (by kernel_rfl) (by kernel_rfl) (by kernel_rfl) (by kernel_rfl) (by kernel_rfl) (by kernel_rfl) (by kernel_rfl) (by kernel_rfl) ?_
  intro w277 M278
  refine W_nil ?_
  refine N_then ?_
  refine G_seq ?_
  refine G_region ?_
  refine W_run 1 [(2, .pointer (some ⟨b266, 0, none⟩)), (3, .pointer (some ⟨b270, 0, none⟩)), (13, .pointer (some ⟨b262, 3, none⟩))] w277 (by kernel_rfl) ?_
  refine W_val (.int .i64 x260.Unit) w277 (by kernel_rfl) (E_load (e := 56) (fr := (0, 0)) _ _ false 1 b262 3 [.int .i64 x260.Base, .int .i64 x260.Size, .int .i64 x260.Kind, .int .i64 x260.Unit] (.int .i64 x260.Unit) rfl (by kernel_rfl) (by kernel_rfl) (by kernel_rfl) (M278.blk 0 (b := b262) (o := .cells ⟨[.int .i64 x260.Base, .int .i64 x260.Size, .int .i64 x260.Kind, .int .i64 x260.Unit]⟩ 56 (0, 0)) (by kernel_rfl))) ?_
  refine W_run 1 [(2, .pointer (some ⟨b266, 0, none⟩)), (3, .pointer (some ⟨b270, 0, none⟩)), (14, .int .i64 x260.Unit), (15, .pointer (some ⟨b270, 3, none⟩))] w277 (by kernel_rfl) ?_
  refine W_store _ _ _ false 1 b270 3 [.int .i64 x260.Base, .int .i64 x260.Size, .int .i64 x260.Kind, .int .i64 0] 59 (.int .i64 x260.Unit) 2 [.int .i64 x260.Base, .int .i64 x260.Size, .int .i64 x260.Kind, .int .i64 x260.Unit] M278 (by kernel_rfl) rfl (by kernel_rfl) (by kernel_rfl) (by kernel_rfl) (by kernel_rfl) (by kernel_rfl) (by kernel_rfl) (by kernel_rfl) (by kernel_rfl) ?_
  intro w279 M280
  refine W_nil ?_
  refine N_then ?_
  refine G_seq ?_
  refine G_region ?_
  refine W_val (.agg #[.int .i64 x260.Base, .int .i64 x260.Size, .int .i64 x260.Kind, .int .i64 x260.Unit]) w279 (by kernel_rfl) (E_load (e := 59) (fr := (0, 0)) _ _ true 4 b270 0 [.int .i64 x260.Base, .int .i64 x260.Size, .int .i64 x260.Kind, .int .i64 x260.Unit] (.agg #[.int .i64 x260.Base, .int .i64 x260.Size, .int .i64 x260.Kind, .int .i64 x260.Unit]) rfl (by kernel_rfl) (by kernel_rfl) (by kernel_rfl) (M280.blk 2 (b := b270) (o := .cells ⟨[.int .i64 x260.Base, .int .i64 x260.Size, .int .i64 x260.Kind, .int .i64 x260.Unit]⟩ 59 (0, 0)) (by kernel_rfl))) ?_
  refine W_store _ _ _ true 4 b266 0 [.int .i64 0, .int .i64 0, .int .i64 0, .int .i64 0] 59 (.agg #[.int .i64 x260.Base, .int .i64 x260.Size, .int .i64 x260.Kind, .int .i64 x260.Unit]) 1 [.int .i64 x260.Base, .int .i64 x260.Size, .int .i64 x260.Kind, .int .i64 x260.Unit] M280 (by kernel_rfl) rfl (by kernel_rfl) (by kernel_rfl) (by kernel_rfl) (by kernel_rfl) (by kernel_rfl) (by kernel_rfl) (by kernel_rfl) (by kernel_rfl) ?_
  intro w281 M282
  refine W_nil ?_
  refine N_then ?_
  refine G_ret ?_
  obtain rfl := Option.some.inj hm
  refine N_ret [.agg #[.int .i64 x260.Base, .int .i64 x260.Size, .int .i64 x260.Kind, .int .i64 x260.Unit]] (RVs_cons (RV_cell (g := true) (k := 4) (b := b266) (off := 0) (cs := [.int .i64 x260.Base, .int .i64 x260.Size, .int .i64 x260.Kind, .int .i64 x260.Unit]) (e := 59) (fr := (0, 0)) (v := .agg #[.int .i64 x260.Base, .int .i64 x260.Size, .int .i64 x260.Kind, .int .i64 x260.Unit]) (M282.blk 1 (b := b266) (o := .cells ⟨[.int .i64 x260.Base, .int .i64 x260.Size, .int .i64 x260.Kind, .int .i64 x260.Unit]⟩ 59 (0, 0)) (by kernel_rfl)) (by kernel_rfl) (by kernel_rfl) (by kernel_rfl)) RVs_nil) ?_
  exact ⟨rfl, M282.pick [] (by kernel_rfl)⟩
theorem c_l_toRegionS (w : World) (x240 : List Region) (p242 : Option Addr) (c243 : Nat) (h244 : rdS encRegion w x240 p242 c243) {r : (List Region)} (hm : M.l_toRegionS x240 = some r) :
    Calls Try.prog 17 #[.slice p242 x240.length c243] w fun e w' => ∃ (p246 : Option Addr) (c247 : Nat) (sg248 : Seg), e = .returned (.slice p246 r.length c247) ∧ ownS encRegion r p246 c247 sg248 ∧ Mem [] w w' [sg248] := by
  unfold M.l_toRegionS at hm
  refine C_enter Try.func17 rfl (by kernel_rfl) ?_
  have M0 := Mem.refl [] w
  refine G_seq ?_
  refine G_region ?_
  refine W_run 1 [(0, .slice p242 x240.length c243)] w (by kernel_rfl) ?_
  refine W_nil ?_
  refine N_then ?_
  refine G_seq ?_
  refine G_region ?_
  refine W_run 2 [(0, .slice p242 x240.length c243), (6, .int .i64 (x240.length : Int))] w (by kernel_rfl) ?_
  obtain ⟨mk250, hmk250, hm⟩ := gx_bind hm
  refine W_make (E := encRegion) _ _ _ (x240.length : Int) 32 [.int .i64 0, .int .i64 0, .int .i64 0, .int .i64 0] ((⟨0, 0, 0, 0⟩ : Region) : Region) M0 (by kernel_rfl) rfl (by kernel_rfl) (by kernel_rfl) (by kernel_rfl) (by kernel_rfl) (by kernel_rfl) hmk250 ?_
  intro p251 c252 sg253 w254 ho255 M256
  refine W_run 1 [(0, .slice p242 x240.length c243), (3, .slice p251 mk250.length c252)] w254 (by kernel_rfl) ?_
  refine W_nil ?_
  refine N_then ?_
  refine G_seq ?_
  refine G_seq ?_
  refine G_region ?_
  refine W_run 1 [(0, .slice p242 x240.length c243), (3, .slice p251 mk250.length c252), (4, .int .i64 0)] w254 (by kernel_rfl) ?_
  refine W_nil ?_
  refine N_then ?_
  obtain ⟨out312, hw313, hmo314⟩ := gx_bind hm
  refine G_meet (fun a w' => ∃ (sg318 : Seg), ownS encRegion out312 p251 c252 sg318 ∧ Mem [] w w' [sg318] ∧ Sat Try.f17.ntmps [(3, .slice p251 out312.length c252)] a) ?_ ?_
  · refine G_block ?_
    refine G_while (σ := Int × List Region) (ρ := List Region) (fun s305 a w' => ∃ (sg315 : Seg), ownS encRegion s305.2 p251 c252 sg315 ∧ Mem [] w w' [sg315] ∧ Sat Try.f17.ntmps [(0, .slice p242 x240.length c243), (3, .slice p251 s305.2.length c252), (4, .int .i64 s305.1)] a) hw313 (fun a ha => ⟨sg253, ho255, M256.pick [0] (by kernel_rfl), ha.sub (by kernel_rfl)⟩) ?_
    clear hm
    intro s305 x306 hm hout307 a308 w309 ⟨sg315, ho316, M310, hS311⟩
    refine G_use hS311 ?_
    refine G_seq ?_
    refine G_seq ?_
    refine G_region ?_
    refine W_run 4 [(0, .slice p242 x240.length c243), (3, .slice p251 s305.2.length c252), (4, .int .i64 s305.1), (11, .bool (decide (s305.1 < (x240.length : Int))))] w309 (by kernel_rfl) ?_
    refine W_nil ?_
    refine N_then ?_
    rcases gx_bif hm with ⟨hc320, hm⟩ | ⟨hc320, hm⟩
    · refine G_cond_t (b := (decide (s305.1 < (x240.length : Int)))) hc320 (by kernel_rfl) ?_
      refine G_skip ?_
      refine N_then ?_
      refine G_seq ?_
      refine G_block ?_
      refine G_region ?_
      refine W_run 4 [(0, .slice p242 x240.length c243), (3, .slice p251 s305.2.length c252), (4, .int .i64 s305.1), (14, .slice p251 s305.2.length c252), (15, .int .i64 s305.1), (16, .slice p242 x240.length c243), (17, .int .i64 s305.1)] w309 (by kernel_rfl) ?_
      obtain ⟨y321, hy321, hm⟩ := gx_bind hm
      refine W_val (elemP p242 (s305.1.toNat * 4)) w309 (by kernel_rfl) (E_index (E := encRegion) _ _ _ x240.length c243 .i64 s305.1 4 (y := y321) rfl (by kernel_rfl) (by kernel_rfl) (by kernel_rfl) (h244.mem0 M310) rfl hy321) ?_
      refine W_val (.agg #[.int .i64 y321.Base, .int .i64 y321.Size, .int .i64 y321.Kind, .int .i64 y321.Unit]) w309 (by kernel_rfl) (E_loadE (E := encRegion) _ _ true 4 s305.1 0 (s305.1.toNat * 4) y321 (.agg #[.int .i64 y321.Base, .int .i64 y321.Size, .int .i64 y321.Kind, .int .i64 y321.Unit]) rfl (by kernel_rfl) (by kernel_rfl) (by kernel_rfl) (h244.mem0 M310) hy321 rfl) ?_
      obtain ⟨r322, hr322, hm⟩ := gx_bind hm
      refine W_call 35 #[.agg #[.int .i64 y321.Base, .int .i64 y321.Size, .int .i64 y321.Kind, .int .i64 y321.Unit]] (by kernel_rfl) (by kernel_rfl) ?_
      refine (c_l_toRegion w309 y321 hr322).mono ?_
      rintro e_ w323 ⟨rfl, K324⟩
      have M325 := M310.call0 K324
      refine ⟨_, rfl, ?_⟩
      obtain ⟨y326, hy326, hm⟩ := gx_bind hm
      refine W_val (elemP p251 (s305.1.toNat * 4)) w323 (by kernel_rfl) (E_index (E := encRegion) _ _ _ s305.2.length c252 .i64 s305.1 4 (y := y326) rfl (by kernel_rfl) (by kernel_rfl) (by kernel_rfl) (ho316.rd M325 0 (by kernel_rfl)) rfl hy326) ?_
      refine W_storeE (E := encRegion) _ _ _ true 4 s305.1.toNat 0 (s305.1.toNat * 4) y326 r322 (.agg #[.int .i64 r322.Base, .int .i64 r322.Size, .int .i64 r322.Kind, .int .i64 r322.Unit]) 0 M325 ho316 (by kernel_rfl) (by kernel_rfl) rfl (by kernel_rfl) (by kernel_rfl) (by kernel_rfl) (by kernel_rfl) (by kernel_rfl) (by kernel_rfl) (by kernel_rfl) (gxIdx_spec hy326).2 rfl ?_
      intro w327 sg329 ho330 M328
      refine W_conv 3 (.slice p251 s305.2.length c252) (.slice p251 (s305.2.set s305.1.toNat r322).length c252) (by kernel_rfl) (by rw [@List.length_set _ s305.2 s305.1.toNat r322]) ?_
      refine W_conv 14 (.slice p251 s305.2.length c252) (.slice p251 (s305.2.set s305.1.toNat r322).length c252) (by kernel_rfl) (by rw [@List.length_set _ s305.2 s305.1.toNat r322]) ?_
      refine W_nil ?_
      refine N_block ?_
      refine N_then ?_
      refine G_region ?_
      refine W_run 3 [(0, .slice p242 x240.length c243), (3, .slice p251 (s305.2.set s305.1.toNat r322).length c252), (4, .int .i64 (w64 (s305.1 + 1)))] w327 (by kernel_rfl) ?_
      refine W_nil ?_
      obtain rfl := Option.some.inj hm
      exact N_loop fun a ha => ⟨_, rfl, sg329, ho330, M328.pick [0] (by kernel_rfl), ha.sub (by kernel_rfl)⟩
    · refine G_cond_f (b := (decide (s305.1 < (x240.length : Int)))) hc320 (by kernel_rfl) ?_
      refine G_exit ?_
      refine N_then_exit ?_
      refine N_then_exit ?_
      refine N_block_eq ?_
      obtain rfl := Option.some.inj hm
      obtain rfl := hout307 _ rfl
      exact N_meet fun a ha => ⟨sg315, ho316, M310.pick [0] (by kernel_rfl), ha.sub (by kernel_rfl)⟩
  · intro a331 w332 ⟨sg318, ho319, M333, hS334⟩
    refine N_use hS334 ?_
    have hm := hmo314
    refine N_then ?_
    refine G_seq ?_
    refine G_region ?_
    refine W_run 2 [(2, .slice p251 out312.length c252)] w332 (by kernel_rfl) ?_
    refine W_nil ?_
    refine N_then ?_
    refine G_ret ?_
    obtain rfl := Option.some.inj hm
    refine N_ret [.slice p251 out312.length c252] (RVs_cons (RV_tmp (by kernel_rfl)) RVs_nil) ?_
    exact ⟨p251, c252, sg318, rfl, ho319, M333.pick [0] (by kernel_rfl)⟩
theorem c_l_toAccess (w : World) (x341 : Access) {r : Access} (hm : M.l_toAccess x341 = some r) :
    Calls Try.prog 18 #[.agg #[.int .i64 x341.Address, .int .i64 x341.Width, .bool x341.Store]] w fun e w' => e = .returned (.agg #[.int .i64 r.Address, .int .i64 r.Width, .bool r.Store]) ∧ Mem [] w w' [] := by
  unfold M.l_toAccess at hm
  refine C_enter Try.func18 rfl (by kernel_rfl) ?_
  have M0 := Mem.refl [] w
  refine G_seq ?_
  refine G_region ?_
  refine W_new (fun b => .pointer (some ⟨b, 0, none⟩)) (.cells ⟨[.int .i64 x341.Address, .int .i64 x341.Width, .bool x341.Store]⟩ 30 (0, 0)) M0 rfl (by kernel_rfl) (by kernel_rfl) ?_
  intro b343 w344 M345
  refine W_new (fun b => .pointer (some ⟨b, 0, none⟩)) (.cells ⟨[.int .i64 0, .int .i64 0, .bool false]⟩ 36 (0, 0)) M345 rfl (by kernel_rfl) (by kernel_rfl) ?_
  intro b347 w348 M349
  refine W_nil ?_
  refine N_then ?_
  refine G_seq ?_
  refine G_region ?_
  refine W_new (fun b => .pointer (some ⟨b, 0, none⟩)) (.cells ⟨[.int .i64 0, .int .i64 0, .bool false]⟩ 36 (0, 0)) M349 rfl (by kernel_rfl) (by kernel_rfl) ?_
  intro b351 w352 M353
  refine W_nil ?_
  refine N_then ?_
  refine G_seq ?_
  refine G_region ?_
  refine W_run 1 [(1, .pointer (some ⟨b343, 0, none⟩)), (2, .pointer (some ⟨b347, 0, none⟩)), (3, .pointer (some ⟨b351, 0, none⟩)), (4, .pointer (some ⟨b343, 0, none⟩))] w352 (by kernel_rfl) ?_
  refine W_val (.int .i64 x341.Address) w352 (by kernel_rfl) (E_load (e := 30) (fr := (0, 0)) _ _ false 1 b343 0 [.int .i64 x341.Address, .int .i64 x341.Width, .bool x341.Store] (.int .i64 x341.Address) rfl (by kernel_rfl) (by kernel_rfl) (by kernel_rfl) (M353.blk 0 (b := b343) (o := .cells ⟨[.int .i64 x341.Address, .int .i64 x341.Width, .bool x341.Store]⟩ 30 (0, 0)) (by kernel_rfl))) ?_
  refine W_run 1 [(1, .pointer (some ⟨b343, 0, none⟩)), (2, .pointer (some ⟨b347, 0, none⟩)), (3, .pointer (some ⟨b351, 0, none⟩)), (5, .int .i64 x341.Address), (6, .pointer (some ⟨b351, 0, none⟩))] w352 (by kernel_rfl) ?_
  refine W_store _ _ _ false 1 b351 0 [.int .i64 0, .int .i64 0, .bool false] 36 (.int .i64 x341.Address) 2 [.int .i64 x341.Address, .int .i64 0, .bool false] M353 (by kernel_rfl) rfl (by kernel_rfl) (by kernel_rfl) (by kernel_rfl) (by kernel_rfl) (by kernel_rfl) (by kernel_rfl) (by kernel_rfl) (by kernel_rfl) ?_
  intro w354 M355
  refine W_nil ?_
  refine N_then ?_
  refine G_seq ?_
  refine G_region ?_
  refine W_run 1 [(1, .pointer (some ⟨b343, 0, none⟩)), (2, .pointer (some ⟨b347, 0, none⟩)), (3, .pointer (some ⟨b351, 0, none⟩)), (7, .pointer (some ⟨b343, 1, none⟩))] w354 (by kernel_rfl) ?_
  refine W_val (.int .i64 x341.Width) w354 (by kernel_rfl) (E_load (e := 30) (fr := (0, 0)) _ _ false 1 b343 1 [.int .i64 x341.Address, .int .i64 x341.Width, .bool x341.Store] (.int .i64 x341.Width) rfl (by kernel_rfl) (by kernel_rfl) (by kernel_rfl) (M355.blk 0 (b := b343) (o := .cells ⟨[.int .i64 x341.Address, .int .i64 x341.Width, .bool x341.Store]⟩ 30 (0, 0)) (by kernel_rfl))) ?_
  refine W_run 1 [(1, .pointer (some ⟨b343, 0, none⟩)), (2, .pointer (some ⟨b347, 0, none⟩)), (3, .pointer (some ⟨b351, 0, none⟩)), (8, .int .i64 x341.Width), (9, .pointer (some ⟨b351, 1, none⟩))] w354 (by kernel_rfl) ?_
  refine W_store _ _ _ false 1 b351 1 [.int .i64 x341.Address, .int .i64 0, .bool false] 36 (.int .i64 x341.Width) 2 [.int .i64 x341.Address, .int .i64 x341.Width, .bool false] M355 (by kernel_rfl) rfl (by kernel_rfl) (by kernel_rfl) (by kernel_rfl) (by kernel_rfl) (by kernel_rfl) (by kernel_rfl) (by kernel_rfl) (by kernel_rfl) ?_
  intro w356 M357
  refine W_nil ?_
  refine N_then ?_
  refine G_seq ?_
  refine G_region ?_
  refine W_run 1 [(2, .pointer (some ⟨b347, 0, none⟩)), (3, .pointer (some ⟨b351, 0, none⟩)), (10, .pointer (some ⟨b343, 2, none⟩))] w356 (by kernel_rfl) ?_
  refine W_val (.bool x341.Store) w356 (by kernel_rfl) (E_load (e := 30) (fr := (0, 0)) _ _ false 1 b343 2 [.int .i64 x341.Address, .int .i64 x341.Width, .bool x341.Store] (.bool x341.Store) rfl (by kernel_rfl) (by kernel_rfl) (by kernel_rfl) (M357.blk 0 (b := b343) (o := .cells ⟨[.int .i64 x341.Address, .int .i64 x341.Width, .bool x341.Store]⟩ 30 (0, 0)) (by kernel_rfl))) ?_
  refine W_run 1 [(2, .pointer (some ⟨b347, 0, none⟩)), (3, .pointer (some ⟨b351, 0, none⟩)), (11, .bool x341.Store), (12, .pointer (some ⟨b351, 2, none⟩))] w356 (by kernel_rfl) ?_
  refine W_store _ _ _ false 1 b351 2 [.int .i64 x341.Address, .int .i64 x341.Width, .bool false] 36 (.bool x341.Store) 2 [.int .i64 x341.Address, .int .i64 x341.Width, .bool x341.Store] M357 (by kernel_rfl) rfl (by kernel_rfl) (by kernel_rfl) (by kernel_rfl) (by kernel_rfl) (by kernel_rfl) (by kernel_rfl) (by kernel_rfl) (by kernel_rfl) ?_
  intro w358 M359
  refine W_nil ?_
  refine N_then ?_
  refine G_seq ?_
  refine G_region ?_
  refine W_val (.agg #[.int .i64 x341.Address, .int .i64 x341.Width, .bool x341.Store]) w358 (by kernel_rfl) (E_load (e := 36) (fr := (0, 0)) _ _ true 3 b351 0 [.int .i64 x341.Address, .int .i64 x341.Width, .bool x341.Store] (.agg #[.int .i64 x341.Address, .int .i64 x341.Width, .bool x341.Store]) rfl (by kernel_rfl) (by kernel_rfl) (by kernel_rfl) (M359.blk 2 (b := b351) (o := .cells ⟨[.int .i64 x341.Address, .int .i64 x341.Width, .bool x341.Store]⟩ 36 (0, 0)) (by kernel_rfl))) ?_
  refine W_store _ _ _ true 3 b347 0 [.int .i64 0, .int .i64 0, .bool false] 36 (.agg #[.int .i64 x341.Address, .int .i64 x341.Width, .bool x341.Store]) 1 [.int .i64 x341.Address, .int .i64 x341.Width, .bool x341.Store] M359 (by kernel_rfl) rfl (by kernel_rfl) (by kernel_rfl) (by kernel_rfl) (by kernel_rfl) (by kernel_rfl) (by kernel_rfl) (by kernel_rfl) (by kernel_rfl) ?_
  intro w360 M361
  refine W_nil ?_
  refine N_then ?_
  refine G_ret ?_
  obtain rfl := Option.some.inj hm
  refine N_ret [.agg #[.int .i64 x341.Address, .int .i64 x341.Width, .bool x341.Store]] (RVs_cons (RV_cell (g := true) (k := 3) (b := b347) (off := 0) (cs := [.int .i64 x341.Address, .int .i64 x341.Width, .bool x341.Store]) (e := 36) (fr := (0, 0)) (v := .agg #[.int .i64 x341.Address, .int .i64 x341.Width, .bool x341.Store]) (M361.blk 1 (b := b347) (o := .cells ⟨[.int .i64 x341.Address, .int .i64 x341.Width, .bool x341.Store]⟩ 36 (0, 0)) (by kernel_rfl)) (by kernel_rfl) (by kernel_rfl) (by kernel_rfl)) RVs_nil) ?_
  exact ⟨rfl, M361.pick [] (by kernel_rfl)⟩
theorem c_s_l17Size (w : World) (x385 : Int) {r : Bool} (hm : M.s_l17Size x385 = some r) :
    Calls Try.prog 71 #[.int .i64 x385] w fun e w' => e = .returned (.bool r) ∧ Mem [] w w' [] := by
  unfold M.s_l17Size at hm
  refine C_enter Try.func71 rfl (by kernel_rfl) ?_
  have M0 := Mem.refl [] w
  refine G_seq ?_
  refine G_region ?_
  refine W_run 1 [(0, .int .i64 x385)] w (by kernel_rfl) ?_
  refine W_nil ?_
  refine N_then ?_
  refine G_seq ?_
  obtain ⟨o391, ho392, hm393⟩ := gx_bind hm
  refine G_meet (fun a w' => Mem [] w w' [] ∧ Sat Try.f71.ntmps [(2, .bool o391)] a) ?_ ?_
  · have hm := ho392
    refine G_region ?_
    refine W_run 1 [(0, .int .i64 x385), (3, .int .i64 x385)] w (by kernel_rfl) ?_
    obtain ⟨r394, hr394, hm⟩ := gx_bind hm
    refine W_call 76 #[.int .i64 x385, .int .i64 4, .int .i64 4096] (by kernel_rfl) (by kernel_rfl) ?_
    refine (c_s_l1In w x385 4 4096 hr394).mono ?_
    rintro e_ w395 ⟨rfl, K396⟩
    have M397 := M0.call0 K396
    refine ⟨_, rfl, ?_⟩
    refine W_run 1 [(0, .int .i64 x385), (5, .bool r394)] w395 (by kernel_rfl) ?_
    rcases gx_bif hm with ⟨hc398, hm⟩ | ⟨hc398, hm⟩
    · refine W_known 5 true (by kernel_rfl) hc398 ?_
      refine W_run 7 [(2, .bool ((gxAnd .i64 x385 (w64 (x385 - 1))) == 0))] w395 (by kernel_rfl) ?_
      refine W_nil ?_
      obtain rfl := Option.some.inj hm
      exact N_meet fun a ha => ⟨M397.pick [] (by kernel_rfl), ha.sub (by kernel_rfl)⟩
    · refine W_known 5 false (by kernel_rfl) hc398 ?_
      refine W_run 7 [(2, .bool false)] w395 (by kernel_rfl) ?_
      refine W_nil ?_
      obtain rfl := Option.some.inj hm
      exact N_meet fun a ha => ⟨M397.pick [] (by kernel_rfl), ha.sub (by kernel_rfl)⟩
  · intro a401 w399 ⟨M400, hS402⟩
    refine N_use hS402 ?_
    have hm := hm393
    refine N_then ?_
    refine G_ret ?_
    obtain rfl := Option.some.inj hm
    refine N_ret [.bool o391] (RVs_cons (RV_tmp (by kernel_rfl)) RVs_nil) ?_
    exact ⟨rfl, M400.pick [] (by kernel_rfl)⟩
theorem c_s_l17Address (w : World) (x408 : Int) {r : Bool} (hm : M.s_l17Address x408 = some r) :
    Calls Try.prog 68 #[.int .i64 x408] w fun e w' => e = .returned (.bool r) ∧ Mem [] w w' [] := by
  unfold M.s_l17Address at hm
  refine C_enter Try.func68 rfl (by kernel_rfl) ?_
  have M0 := Mem.refl [] w
  refine G_seq ?_
  refine G_region ?_
  refine W_run 1 [(0, .int .i64 x408)] w (by kernel_rfl) ?_
  refine W_nil ?_
  refine N_then ?_
  refine G_seq ?_
  refine G_region ?_
  refine W_run 1 [(3, .int .i64 x408)] w (by kernel_rfl) ?_
  obtain ⟨r409, hr409, hm⟩ := gx_bind hm
  refine W_call 76 #[.int .i64 x408, .int .i64 0, .int .i64 65535] (by kernel_rfl) (by kernel_rfl) ?_
  refine (c_s_l1In w x408 0 65535 hr409).mono ?_
  rintro e_ w410 ⟨rfl, K411⟩
  have M412 := M0.call0 K411
  refine ⟨_, rfl, ?_⟩
  refine W_run 1 [(2, .bool r409)] w410 (by kernel_rfl) ?_
  refine W_nil ?_
  refine N_then ?_
  refine G_ret ?_
  obtain rfl := Option.some.inj hm
  refine N_ret [.bool r409] (RVs_cons (RV_tmp (by kernel_rfl)) RVs_nil) ?_
  exact ⟨rfl, M412.pick [] (by kernel_rfl)⟩
theorem c_s_l17One (w : World) (x380 : Region) {r : Bool} (hm : M.s_l17One x380 = some r) :
    Calls Try.prog 85 #[.agg #[.int .i64 x380.Base, .int .i64 x380.Size, .int .i64 x380.Kind, .int .i64 x380.Unit]] w fun e w' => e = .returned (.bool r) ∧ Mem [] w w' [] := by
  unfold M.s_l17One at hm
  refine C_enter Try.func85 rfl (by kernel_rfl) ?_
  have M0 := Mem.refl [] w
  refine G_seq ?_
  refine G_region ?_
  refine W_new (fun b => .pointer (some ⟨b, 0, none⟩)) (.cells ⟨[.int .i64 x380.Base, .int .i64 x380.Size, .int .i64 x380.Kind, .int .i64 x380.Unit]⟩ 59 (0, 0)) M0 rfl (by kernel_rfl) (by kernel_rfl) ?_
  intro b382 w383 M384
  refine W_run 1 [(1, .pointer (some ⟨b382, 0, none⟩))] w383 (by kernel_rfl) ?_
  refine W_nil ?_
  refine N_then ?_
  refine G_seq ?_
  obtain ⟨o429, ho430, hm431⟩ := gx_bind hm
  refine G_meet (fun a w' => Mem [] w w' [] ∧ Sat Try.f85.ntmps [(2, .bool o429)] a) ?_ ?_
  · have hm := ho430
    refine G_region ?_
    refine W_run 1 [(1, .pointer (some ⟨b382, 0, none⟩)), (3, .pointer (some ⟨b382, 1, none⟩))] w383 (by kernel_rfl) ?_
    refine W_val (.int .i64 x380.Size) w383 (by kernel_rfl) (E_load (e := 59) (fr := (0, 0)) _ _ false 1 b382 1 [.int .i64 x380.Base, .int .i64 x380.Size, .int .i64 x380.Kind, .int .i64 x380.Unit] (.int .i64 x380.Size) rfl (by kernel_rfl) (by kernel_rfl) (by kernel_rfl) (M384.blk 0 (b := b382) (o := .cells ⟨[.int .i64 x380.Base, .int .i64 x380.Size, .int .i64 x380.Kind, .int .i64 x380.Unit]⟩ 59 (0, 0)) (by kernel_rfl))) ?_
    obtain ⟨r432, hr432, hm⟩ := gx_bind hm
    refine W_call 71 #[.int .i64 x380.Size] (by kernel_rfl) (by kernel_rfl) ?_
    refine (c_s_l17Size w383 x380.Size hr432).mono ?_
    rintro e_ w433 ⟨rfl, K434⟩
    have M435 := M384.call0 K434
    refine ⟨_, rfl, ?_⟩
    refine W_run 1 [(1, .pointer (some ⟨b382, 0, none⟩)), (6, .bool r432)] w433 (by kernel_rfl) ?_
    rcases gx_bif hm with ⟨hc436, hm⟩ | ⟨hc436, hm⟩
    · refine W_known 6 true (by kernel_rfl) hc436 ?_
      refine W_run 1 [(1, .pointer (some ⟨b382, 0, none⟩)), (6, .bool true), (7, .pointer (some ⟨b382, 0, none⟩))] w433 (by kernel_rfl) ?_
      refine W_val (.int .i64 x380.Base) w433 (by kernel_rfl) (E_load (e := 59) (fr := (0, 0)) _ _ false 1 b382 0 [.int .i64 x380.Base, .int .i64 x380.Size, .int .i64 x380.Kind, .int .i64 x380.Unit] (.int .i64 x380.Base) rfl (by kernel_rfl) (by kernel_rfl) (by kernel_rfl) (M435.blk 0 (b := b382) (o := .cells ⟨[.int .i64 x380.Base, .int .i64 x380.Size, .int .i64 x380.Kind, .int .i64 x380.Unit]⟩ 59 (0, 0)) (by kernel_rfl))) ?_
      obtain ⟨r437, hr437, hm⟩ := gx_bind hm
      refine W_call 68 #[.int .i64 x380.Base] (by kernel_rfl) (by kernel_rfl) ?_
      refine (c_s_l17Address w433 x380.Base hr437).mono ?_
      rintro e_ w438 ⟨rfl, K439⟩
      have M440 := M435.call0 K439
      refine ⟨_, rfl, ?_⟩
      refine W_run 2 [(1, .pointer (some ⟨b382, 0, none⟩)), (11, .bool r437)] w438 (by kernel_rfl) ?_
      rcases gx_bif hm with ⟨hc441, hm⟩ | ⟨hc441, hm⟩
      · refine W_known 11 true (by kernel_rfl) hc441 ?_
        refine W_run 1 [(1, .pointer (some ⟨b382, 0, none⟩)), (11, .bool true), (12, .pointer (some ⟨b382, 0, none⟩))] w438 (by kernel_rfl) ?_
        refine W_val (.int .i64 x380.Base) w438 (by kernel_rfl) (E_load (e := 59) (fr := (0, 0)) _ _ false 1 b382 0 [.int .i64 x380.Base, .int .i64 x380.Size, .int .i64 x380.Kind, .int .i64 x380.Unit] (.int .i64 x380.Base) rfl (by kernel_rfl) (by kernel_rfl) (by kernel_rfl) (M440.blk 0 (b := b382) (o := .cells ⟨[.int .i64 x380.Base, .int .i64 x380.Size, .int .i64 x380.Kind, .int .i64 x380.Unit]⟩ 59 (0, 0)) (by kernel_rfl))) ?_
        refine W_run 1 [(1, .pointer (some ⟨b382, 0, none⟩)), (11, .bool true), (13, .int .i64 x380.Base), (14, .pointer (some ⟨b382, 1, none⟩))] w438 (by kernel_rfl) ?_
        refine W_val (.int .i64 x380.Size) w438 (by kernel_rfl) (E_load (e := 59) (fr := (0, 0)) _ _ false 1 b382 1 [.int .i64 x380.Base, .int .i64 x380.Size, .int .i64 x380.Kind, .int .i64 x380.Unit] (.int .i64 x380.Size) rfl (by kernel_rfl) (by kernel_rfl) (by kernel_rfl) (M440.blk 0 (b := b382) (o := .cells ⟨[.int .i64 x380.Base, .int .i64 x380.Size, .int .i64 x380.Kind, .int .i64 x380.Unit]⟩ 59 (0, 0)) (by kernel_rfl))) ?_
        obtain ⟨q442, hq442, hm⟩ := gx_bind hm
        refine W_val (.int .i64 q442) w438 (by kernel_rfl) (E_rem _ _ _ _ x380.Base x380.Size q442 rfl (by kernel_rfl) (by kernel_rfl) hq442) ?_
        refine W_run 3 [(1, .pointer (some ⟨b382, 0, none⟩)), (19, .bool (q442 == 0))] w438 (by kernel_rfl) ?_
        rcases gx_bif hm with ⟨hc443, hm⟩ | ⟨hc443, hm⟩
        · refine W_known 19 true (by kernel_rfl) hc443 ?_
          refine W_run 1 [(1, .pointer (some ⟨b382, 0, none⟩)), (19, .bool true), (20, .pointer (some ⟨b382, 2, none⟩))] w438 (by kernel_rfl) ?_
          refine W_val (.int .i64 x380.Kind) w438 (by kernel_rfl) (E_load (e := 59) (fr := (0, 0)) _ _ false 1 b382 2 [.int .i64 x380.Base, .int .i64 x380.Size, .int .i64 x380.Kind, .int .i64 x380.Unit] (.int .i64 x380.Kind) rfl (by kernel_rfl) (by kernel_rfl) (by kernel_rfl) (M440.blk 0 (b := b382) (o := .cells ⟨[.int .i64 x380.Base, .int .i64 x380.Size, .int .i64 x380.Kind, .int .i64 x380.Unit]⟩ 59 (0, 0)) (by kernel_rfl))) ?_
          obtain ⟨r444, hr444, hm⟩ := gx_bind hm
          refine W_call 76 #[.int .i64 x380.Kind, .int .i64 0, .int .i64 3] (by kernel_rfl) (by kernel_rfl) ?_
          refine (c_s_l1In w438 x380.Kind 0 3 hr444).mono ?_
          rintro e_ w445 ⟨rfl, K446⟩
          have M447 := M440.call0 K446
          refine ⟨_, rfl, ?_⟩
          refine W_run 2 [(1, .pointer (some ⟨b382, 0, none⟩)), (24, .bool r444)] w445 (by kernel_rfl) ?_
          rcases gx_bif hm with ⟨hc448, hm⟩ | ⟨hc448, hm⟩
          · refine W_known 24 true (by kernel_rfl) hc448 ?_
            refine W_run 1 [(24, .bool true), (25, .pointer (some ⟨b382, 3, none⟩))] w445 (by kernel_rfl) ?_
            refine W_val (.int .i64 x380.Unit) w445 (by kernel_rfl) (E_load (e := 59) (fr := (0, 0)) _ _ false 1 b382 3 [.int .i64 x380.Base, .int .i64 x380.Size, .int .i64 x380.Kind, .int .i64 x380.Unit] (.int .i64 x380.Unit) rfl (by kernel_rfl) (by kernel_rfl) (by kernel_rfl) (M447.blk 0 (b := b382) (o := .cells ⟨[.int .i64 x380.Base, .int .i64 x380.Size, .int .i64 x380.Kind, .int .i64 x380.Unit]⟩ 59 (0, 0)) (by kernel_rfl))) ?_
            obtain ⟨r449, hr449, hm⟩ := gx_bind hm
            refine W_call 76 #[.int .i64 x380.Unit, .int .i64 0, .int .i64 15] (by kernel_rfl) (by kernel_rfl) ?_
            refine (c_s_l1In w445 x380.Unit 0 15 hr449).mono ?_
            rintro e_ w450 ⟨rfl, K451⟩
            have M452 := M447.call0 K451
            refine ⟨_, rfl, ?_⟩
            refine W_run 2 [(2, .bool r449)] w450 (by kernel_rfl) ?_
            refine W_nil ?_
            obtain rfl := Option.some.inj hm
            exact N_meet fun a ha => ⟨M452.pick [] (by kernel_rfl), ha.sub (by kernel_rfl)⟩
          · refine W_known 24 false (by kernel_rfl) hc448 ?_
            refine W_run 5 [(2, .bool false)] w445 (by kernel_rfl) ?_
            refine W_nil ?_
            obtain rfl := Option.some.inj hm
            exact N_meet fun a ha => ⟨M447.pick [] (by kernel_rfl), ha.sub (by kernel_rfl)⟩
        · refine W_known 19 false (by kernel_rfl) hc443 ?_
          refine W_run 10 [(2, .bool false)] w438 (by kernel_rfl) ?_
          refine W_nil ?_
          obtain rfl := Option.some.inj hm
          exact N_meet fun a ha => ⟨M440.pick [] (by kernel_rfl), ha.sub (by kernel_rfl)⟩
      · refine W_known 11 false (by kernel_rfl) hc441 ?_
        refine W_run 18 [(2, .bool false)] w438 (by kernel_rfl) ?_
        refine W_nil ?_
        obtain rfl := Option.some.inj hm
        exact N_meet fun a ha => ⟨M440.pick [] (by kernel_rfl), ha.sub (by kernel_rfl)⟩
    · refine W_known 6 false (by kernel_rfl) hc436 ?_
      refine W_run 23 [(2, .bool false)] w433 (by kernel_rfl) ?_
      refine W_nil ?_
      obtain rfl := Option.some.inj hm
      exact N_meet fun a ha => ⟨M435.pick [] (by kernel_rfl), ha.sub (by kernel_rfl)⟩
  · intro a455 w453 ⟨M454, hS456⟩
    refine N_use hS456 ?_
    have hm := hm431
    refine N_then ?_
    refine G_ret ?_
    obtain rfl := Option.some.inj hm
    refine N_ret [.bool o429] (RVs_cons (RV_tmp (by kernel_rfl)) RVs_nil) ?_
    exact ⟨rfl, M454.pick [] (by kernel_rfl)⟩
theorem c_s_l17Good (w : World) (x373 : List Region) (p375 : Option Addr) (c376 : Nat) (h377 : rdS encRegion w x373 p375 c376) {r : Bool} (hm : M.s_l17Good x373 = some r) :
    Calls Try.prog 60 #[.slice p375 x373.length c376] w fun e w' => e = .returned (.bool r) ∧ Mem [] w w' [] := by
  unfold M.s_l17Good at hm
  refine C_enter Try.func60 rfl (by kernel_rfl) ?_
  have M0 := Mem.refl [] w
  refine G_seq ?_
  refine G_region ?_
  refine W_run 1 [(0, .slice p375 x373.length c376)] w (by kernel_rfl) ?_
  refine W_nil ?_
  refine N_then ?_
  refine G_seq ?_
  refine G_seq ?_
  refine G_region ?_
  refine W_run 1 [(0, .slice p375 x373.length c376), (3, .int .i64 0)] w (by kernel_rfl) ?_
  refine W_nil ?_
  refine N_then ?_
  obtain ⟨out544, hw545, hmo546⟩ := gx_bind hm
  refine G_meet (fun a w' => ∃ (o547 : Unit), out544 = .inl o547 ∧ Mem [] w w' [] ∧ Sat Try.f60.ntmps [(0, .slice p375 x373.length c376)] a) ?_ ?_
  · refine G_block ?_
    refine G_while (σ := Int) (ρ := (Unit) ⊕ (Bool)) (fun s537 a w' => Mem [] w w' [] ∧ Sat Try.f60.ntmps [(0, .slice p375 x373.length c376), (3, .int .i64 s537)] a) hw545 (fun a ha => ⟨M0.pick [] (by kernel_rfl), ha.sub (by kernel_rfl)⟩) ?_
    clear hm
    intro s537 x538 hm hout539 a540 w541 ⟨M542, hS543⟩
    refine G_use hS543 ?_
    refine G_seq ?_
    refine G_seq ?_
    refine G_region ?_
    refine W_run 4 [(0, .slice p375 x373.length c376), (3, .int .i64 s537), (7, .bool (decide (s537 < (x373.length : Int))))] w541 (by kernel_rfl) ?_
    refine W_nil ?_
    refine N_then ?_
    rcases gx_bif hm with ⟨hc548, hm⟩ | ⟨hc548, hm⟩
    · refine G_cond_t (b := (decide (s537 < (x373.length : Int)))) hc548 (by kernel_rfl) ?_
      refine G_skip ?_
      refine N_then ?_
      refine G_seq ?_
      refine G_block ?_
      refine G_seq ?_
      obtain ⟨o565, ho566, hm567⟩ := gx_bind hm
      refine G_meet (fun a w' => Mem [] w w' [] ∧ Sat Try.f60.ntmps [(0, .slice p375 x373.length c376), (3, .int .i64 s537), (40, .bool o565)] a) ?_ ?_
      · have hm := ho566
        refine G_quiet (by kernel_rfl) (by kernel_rfl) M542 ?_
        refine Z_runs [.slice p375 x373.length c376, .int .i64 s537] [(0, .slice p375 x373.length c376), (3, .int .i64 s537), (10, .slice p375 x373.length c376), (11, .int .i64 s537)] (fun w_ => by kernel_rfl) (by kernel_rfl) ?_
        obtain ⟨y568, hy568, hm⟩ := gx_bind hm
        refine Z_val (elemP p375 (s537.toNat * 4)) (by kernel_rfl) (fun w_ M_ => (E_index (E := encRegion) _ _ _ x373.length c376 .i64 s537 4 (y := y568) rfl (by kernel_rfl) (by kernel_rfl) (by kernel_rfl) (h377.mem0 M_) rfl hy568)) ?_
        refine Z_val (.agg #[.int .i64 y568.Base, .int .i64 y568.Size, .int .i64 y568.Kind, .int .i64 y568.Unit]) (by kernel_rfl) (fun w_ M_ => (E_loadE (E := encRegion) _ _ true 4 s537 0 (s537.toNat * 4) y568 (.agg #[.int .i64 y568.Base, .int .i64 y568.Size, .int .i64 y568.Kind, .int .i64 y568.Unit]) rfl (by kernel_rfl) (by kernel_rfl) (by kernel_rfl) (h377.mem0 M_) hy568 rfl)) ?_
        obtain ⟨r569, hr569, hm⟩ := gx_bind hm
        refine Z_call 85 #[.agg #[.int .i64 y568.Base, .int .i64 y568.Size, .int .i64 y568.Kind, .int .i64 y568.Unit]] (.bool r569) (by kernel_rfl) (fun w_ => by kernel_rfl) (fun w_ M_ => (c_s_l17One w_ y568 hr569).mono fun e w2_ h_ => ⟨h_.1, M_.call0 h_.2⟩) ?_
        refine Z_runs [.bool (!r569), .bool (!r569)] [(0, .slice p375 x373.length c376), (3, .int .i64 s537), (16, .bool (!r569))] (fun w_ => by kernel_rfl) (by kernel_rfl) ?_
        rcases gx_bif hm with ⟨hc573, hm⟩ | ⟨hc573, hm⟩
        · refine Z_known 16 true (by kernel_rfl) hc573 ?_
          refine Z_runs [undef, undef, undef, undef, undef, undef, undef, undef, undef, undef, undef, undef, undef, undef, undef, undef, undef, undef, undef, undef, undef, undef, undef, .bool true] [(0, .slice p375 x373.length c376), (3, .int .i64 s537), (40, .bool true)] (fun w_ => by kernel_rfl) (by kernel_rfl) ?_
          refine Z_end fun w574 M575 => ?_
          obtain rfl := Option.some.inj hm
          exact N_meet fun a ha => ⟨M575.pick [] (by kernel_rfl), ha.sub (by kernel_rfl)⟩
        · refine Z_known 16 false (by kernel_rfl) hc573 ?_
          refine Z_runs [.int .i64 s537, .bool (decide (s537 > 0)), .bool (decide (s537 > 0))] [(0, .slice p375 x373.length c376), (3, .int .i64 s537), (16, .bool false), (19, .bool (decide (s537 > 0)))] (fun w_ => by kernel_rfl) (by kernel_rfl) ?_
          rcases gx_bif hm with ⟨hc576, hm⟩ | ⟨hc576, hm⟩
          · refine Z_known 19 true (by kernel_rfl) hc576 ?_
            refine Z_runs [.slice p375 x373.length c376, .int .i64 s537, .int .i64 (w64 (s537 - 1))] [(0, .slice p375 x373.length c376), (3, .int .i64 s537), (16, .bool false), (19, .bool true), (20, .slice p375 x373.length c376), (22, .int .i64 (w64 (s537 - 1)))] (fun w_ => by kernel_rfl) (by kernel_rfl) ?_
            obtain ⟨y577, hy577, hm⟩ := gx_bind hm
            refine Z_val (elemP p375 ((w64 (s537 - 1)).toNat * 4)) (by kernel_rfl) (fun w_ M_ => (E_index (E := encRegion) _ _ _ x373.length c376 .i64 (w64 (s537 - 1)) 4 (y := y577) rfl (by kernel_rfl) (by kernel_rfl) (by kernel_rfl) (h377.mem0 M_) rfl hy577)) ?_
            refine Z_val (elemP p375 ((w64 (s537 - 1)).toNat * 4 + 0)) (by kernel_rfl) (fun w_ M_ => (E_fieldE (E := encRegion) _ _ 0 ((w64 (s537 - 1)).toNat * 4) 0 rfl (by kernel_rfl) (by kernel_rfl) (h377.mem0 M_) hy577)) ?_
            refine Z_val (.int .i64 y577.Base) (by kernel_rfl) (fun w_ M_ => (E_loadE (E := encRegion) _ _ false 1 (w64 (s537 - 1)) 0 ((w64 (s537 - 1)).toNat * 4 + 0) y577 (.int .i64 y577.Base) rfl (by kernel_rfl) (by kernel_rfl) (by kernel_rfl) (h377.mem0 M_) hy577 rfl)) ?_
            refine Z_runs [.slice p375 x373.length c376, .int .i64 s537, .int .i64 (w64 (s537 - 1))] [(0, .slice p375 x373.length c376), (3, .int .i64 s537), (16, .bool false), (19, .bool true), (25, .int .i64 y577.Base), (26, .slice p375 x373.length c376), (28, .int .i64 (w64 (s537 - 1)))] (fun w_ => by kernel_rfl) (by kernel_rfl) ?_
            obtain ⟨y578, hy578, hm⟩ := gx_bind hm
            refine Z_val (elemP p375 ((w64 (s537 - 1)).toNat * 4)) (by kernel_rfl) (fun w_ M_ => (E_index (E := encRegion) _ _ _ x373.length c376 .i64 (w64 (s537 - 1)) 4 (y := y578) rfl (by kernel_rfl) (by kernel_rfl) (by kernel_rfl) (h377.mem0 M_) rfl hy578)) ?_
            refine Z_val (elemP p375 ((w64 (s537 - 1)).toNat * 4 + 1)) (by kernel_rfl) (fun w_ M_ => (E_fieldE (E := encRegion) _ _ 1 ((w64 (s537 - 1)).toNat * 4) 1 rfl (by kernel_rfl) (by kernel_rfl) (h377.mem0 M_) hy578)) ?_
            refine Z_val (.int .i64 y578.Size) (by kernel_rfl) (fun w_ M_ => (E_loadE (E := encRegion) _ _ false 1 (w64 (s537 - 1)) 1 ((w64 (s537 - 1)).toNat * 4 + 1) y578 (.int .i64 y578.Size) rfl (by kernel_rfl) (by kernel_rfl) (by kernel_rfl) (h377.mem0 M_) hy578 rfl)) ?_
            refine Z_runs [.int .i64 (w64 (y577.Base + y578.Size)), .slice p375 x373.length c376, .int .i64 s537] [(0, .slice p375 x373.length c376), (3, .int .i64 s537), (16, .bool false), (19, .bool true), (32, .int .i64 (w64 (y577.Base + y578.Size))), (33, .slice p375 x373.length c376), (34, .int .i64 s537)] (fun w_ => by kernel_rfl) (by kernel_rfl) ?_
            obtain ⟨y579, hy579, hm⟩ := gx_bind hm
            refine Z_val (elemP p375 (s537.toNat * 4)) (by kernel_rfl) (fun w_ M_ => (E_index (E := encRegion) _ _ _ x373.length c376 .i64 s537 4 (y := y579) rfl (by kernel_rfl) (by kernel_rfl) (by kernel_rfl) (h377.mem0 M_) rfl hy579)) ?_
            refine Z_val (elemP p375 (s537.toNat * 4 + 0)) (by kernel_rfl) (fun w_ M_ => (E_fieldE (E := encRegion) _ _ 0 (s537.toNat * 4) 0 rfl (by kernel_rfl) (by kernel_rfl) (h377.mem0 M_) hy579)) ?_
            refine Z_val (.int .i64 y579.Base) (by kernel_rfl) (fun w_ M_ => (E_loadE (E := encRegion) _ _ false 1 s537 0 (s537.toNat * 4 + 0) y579 (.int .i64 y579.Base) rfl (by kernel_rfl) (by kernel_rfl) (by kernel_rfl) (h377.mem0 M_) hy579 rfl)) ?_
            refine Z_runs [.bool (decide ((w64 (y577.Base + y578.Size)) > y579.Base)), .bool (decide ((w64 (y577.Base + y578.Size)) > y579.Base)), .bool (decide ((w64 (y577.Base + y578.Size)) > y579.Base))] [(0, .slice p375 x373.length c376), (3, .int .i64 s537), (40, .bool (decide ((w64 (y577.Base + y578.Size)) > y579.Base)))] (fun w_ => by kernel_rfl) (by kernel_rfl) ?_
            refine Z_end fun w580 M581 => ?_
            obtain rfl := Option.some.inj hm
            exact N_meet fun a ha => ⟨M581.pick [] (by kernel_rfl), ha.sub (by kernel_rfl)⟩
          · refine Z_known 19 false (by kernel_rfl) hc576 ?_
            refine Z_runs [undef, undef, undef, undef, undef, undef, undef, undef, undef, undef, undef, undef, undef, undef, undef, undef, undef, undef, undef, .bool false, .bool false] [(0, .slice p375 x373.length c376), (3, .int .i64 s537), (40, .bool false)] (fun w_ => by kernel_rfl) (by kernel_rfl) ?_
            refine Z_end fun w582 M583 => ?_
            obtain rfl := Option.some.inj hm
            exact N_meet fun a ha => ⟨M583.pick [] (by kernel_rfl), ha.sub (by kernel_rfl)⟩
      · intro a586 w584 ⟨M585, hS587⟩
        refine N_use hS587 ?_
        have hm := hm567
        refine N_then ?_
        rcases gx_bif hm with ⟨hc588, hm⟩ | ⟨hc588, hm⟩
        · refine G_cond_t (b := o565) hc588 (by kernel_rfl) ?_
          refine G_seq ?_
          refine G_region ?_
          refine W_run 1 [(2, .bool false)] w584 (by kernel_rfl) ?_
          refine W_nil ?_
          refine N_then ?_
          refine G_ret ?_
          refine N_block_ret ?_
          refine N_then_ret ?_
          refine N_then_ret ?_
          obtain rfl := Option.some.inj hm
          obtain rfl := hout539 _ rfl
          have hm := hmo546; simp only [Sum.elim_inr] at hm
          refine N_block_ret ?_
          refine N_meet_ret ?_
          refine N_then_ret ?_
          obtain rfl := Option.some.inj hm
          refine N_ret [.bool false] (RVs_cons (RV_tmp (by kernel_rfl)) RVs_nil) ?_
          exact ⟨rfl, M585.pick [] (by kernel_rfl)⟩
        · refine G_cond_f (b := o565) hc588 (by kernel_rfl) ?_
          refine G_skip ?_
          refine N_block ?_
          refine N_then ?_
          refine G_region ?_
          refine W_run 3 [(0, .slice p375 x373.length c376), (3, .int .i64 (w64 (s537 + 1)))] w584 (by kernel_rfl) ?_
          refine W_nil ?_
          obtain rfl := Option.some.inj hm
          exact N_loop fun a ha => ⟨_, rfl, M585.pick [] (by kernel_rfl), ha.sub (by kernel_rfl)⟩
    · refine G_cond_f (b := (decide (s537 < (x373.length : Int)))) hc548 (by kernel_rfl) ?_
      refine G_exit ?_
      refine N_then_exit ?_
      refine N_then_exit ?_
      refine N_block_eq ?_
      obtain rfl := Option.some.inj hm
      obtain rfl := hout539 _ rfl
      exact N_meet fun a ha => ⟨_, rfl, M542.pick [] (by kernel_rfl), ha.sub (by kernel_rfl)⟩
  · intro a589 w590 ⟨o547, hout_, M591, hS592⟩
    refine N_use hS592 ?_
    subst hout_
    have hm := hmo546; simp only [Sum.elim_inl] at hm
    refine N_then ?_
    refine G_seq ?_
    refine G_region ?_
    refine W_run 4 [(2, .bool (decide ((x373.length : Int) ≤ 6)))] w590 (by kernel_rfl) ?_
    refine W_nil ?_
    refine N_then ?_
    refine G_ret ?_
    obtain rfl := Option.some.inj hm
    refine N_ret [.bool (decide ((x373.length : Int) ≤ 6))] (RVs_cons (RV_tmp (by kernel_rfl)) RVs_nil) ?_
    exact ⟨rfl, M591.pick [] (by kernel_rfl)⟩
theorem c_s_l17Access (w : World) (x598 : Access) {r : Bool} (hm : M.s_l17Access x598 = some r) :
    Calls Try.prog 61 #[.agg #[.int .i64 x598.Address, .int .i64 x598.Width, .bool x598.Store]] w fun e w' => e = .returned (.bool r) ∧ Mem [] w w' [] := by
  unfold M.s_l17Access at hm
  refine C_enter Try.func61 rfl (by kernel_rfl) ?_
  have M0 := Mem.refl [] w
  refine G_seq ?_
  refine G_region ?_
  refine W_new (fun b => .pointer (some ⟨b, 0, none⟩)) (.cells ⟨[.int .i64 x598.Address, .int .i64 x598.Width, .bool x598.Store]⟩ 36 (0, 0)) M0 rfl (by kernel_rfl) (by kernel_rfl) ?_
  intro b600 w601 M602
  refine W_run 1 [(1, .pointer (some ⟨b600, 0, none⟩))] w601 (by kernel_rfl) ?_
  refine W_nil ?_
  refine N_then ?_
  refine G_seq ?_
  obtain ⟨o610, ho611, hm612⟩ := gx_bind hm
  refine G_meet (fun a w' => Mem [] w w' [] ∧ Sat Try.f61.ntmps [(2, .bool o610)] a) ?_ ?_
  · have hm := ho611
    refine G_region ?_
    refine W_run 1 [(1, .pointer (some ⟨b600, 0, none⟩)), (3, .pointer (some ⟨b600, 0, none⟩))] w601 (by kernel_rfl) ?_
    refine W_val (.int .i64 x598.Address) w601 (by kernel_rfl) (E_load (e := 36) (fr := (0, 0)) _ _ false 1 b600 0 [.int .i64 x598.Address, .int .i64 x598.Width, .bool x598.Store] (.int .i64 x598.Address) rfl (by kernel_rfl) (by kernel_rfl) (by kernel_rfl) (M602.blk 0 (b := b600) (o := .cells ⟨[.int .i64 x598.Address, .int .i64 x598.Width, .bool x598.Store]⟩ 36 (0, 0)) (by kernel_rfl))) ?_
    obtain ⟨r613, hr613, hm⟩ := gx_bind hm
    refine W_call 68 #[.int .i64 x598.Address] (by kernel_rfl) (by kernel_rfl) ?_
    refine (c_s_l17Address w601 x598.Address hr613).mono ?_
    rintro e_ w614 ⟨rfl, K615⟩
    have M616 := M602.call0 K615
    refine ⟨_, rfl, ?_⟩
    refine W_run 1 [(1, .pointer (some ⟨b600, 0, none⟩)), (6, .bool r613)] w614 (by kernel_rfl) ?_
    rcases gx_bif hm with ⟨hc617, hm⟩ | ⟨hc617, hm⟩
    · refine W_known 6 true (by kernel_rfl) hc617 ?_
      refine W_run 1 [(1, .pointer (some ⟨b600, 0, none⟩)), (6, .bool true), (7, .pointer (some ⟨b600, 1, none⟩))] w614 (by kernel_rfl) ?_
      refine W_val (.int .i64 x598.Width) w614 (by kernel_rfl) (E_load (e := 36) (fr := (0, 0)) _ _ false 1 b600 1 [.int .i64 x598.Address, .int .i64 x598.Width, .bool x598.Store] (.int .i64 x598.Width) rfl (by kernel_rfl) (by kernel_rfl) (by kernel_rfl) (M616.blk 0 (b := b600) (o := .cells ⟨[.int .i64 x598.Address, .int .i64 x598.Width, .bool x598.Store]⟩ 36 (0, 0)) (by kernel_rfl))) ?_
      refine W_run 2 [(1, .pointer (some ⟨b600, 0, none⟩)), (6, .bool true), (10, .bool (x598.Width == 1))] w614 (by kernel_rfl) ?_
      rcases gx_bif hm with ⟨hc618, hm⟩ | ⟨hc618, hm⟩
      · refine W_known 10 true (by kernel_rfl) hc618 ?_
        refine W_run 11 [(2, .bool true)] w614 (by kernel_rfl) ?_
        refine W_nil ?_
        obtain rfl := Option.some.inj hm
        exact N_meet fun a ha => ⟨M616.pick [] (by kernel_rfl), ha.sub (by kernel_rfl)⟩
      · refine W_known 10 false (by kernel_rfl) hc618 ?_
        refine W_run 1 [(1, .pointer (some ⟨b600, 0, none⟩)), (6, .bool true), (10, .bool false), (11, .pointer (some ⟨b600, 1, none⟩))] w614 (by kernel_rfl) ?_
        refine W_val (.int .i64 x598.Width) w614 (by kernel_rfl) (E_load (e := 36) (fr := (0, 0)) _ _ false 1 b600 1 [.int .i64 x598.Address, .int .i64 x598.Width, .bool x598.Store] (.int .i64 x598.Width) rfl (by kernel_rfl) (by kernel_rfl) (by kernel_rfl) (M616.blk 0 (b := b600) (o := .cells ⟨[.int .i64 x598.Address, .int .i64 x598.Width, .bool x598.Store]⟩ 36 (0, 0)) (by kernel_rfl))) ?_
        refine W_run 3 [(1, .pointer (some ⟨b600, 0, none⟩)), (6, .bool true), (15, .bool (x598.Width == 2))] w614 (by kernel_rfl) ?_
        rcases gx_bif hm with ⟨hc619, hm⟩ | ⟨hc619, hm⟩
        · refine W_known 15 true (by kernel_rfl) hc619 ?_
          refine W_run 6 [(2, .bool true)] w614 (by kernel_rfl) ?_
          refine W_nil ?_
          obtain rfl := Option.some.inj hm
          exact N_meet fun a ha => ⟨M616.pick [] (by kernel_rfl), ha.sub (by kernel_rfl)⟩
        · refine W_known 15 false (by kernel_rfl) hc619 ?_
          refine W_run 1 [(6, .bool true), (15, .bool false), (16, .pointer (some ⟨b600, 1, none⟩))] w614 (by kernel_rfl) ?_
          refine W_val (.int .i64 x598.Width) w614 (by kernel_rfl) (E_load (e := 36) (fr := (0, 0)) _ _ false 1 b600 1 [.int .i64 x598.Address, .int .i64 x598.Width, .bool x598.Store] (.int .i64 x598.Width) rfl (by kernel_rfl) (by kernel_rfl) (by kernel_rfl) (M616.blk 0 (b := b600) (o := .cells ⟨[.int .i64 x598.Address, .int .i64 x598.Width, .bool x598.Store]⟩ 36 (0, 0)) (by kernel_rfl))) ?_
          refine W_run 4 [(2, .bool (x598.Width == 4))] w614 (by kernel_rfl) ?_
          refine W_nil ?_
          obtain rfl := Option.some.inj hm
          exact N_meet fun a ha => ⟨M616.pick [] (by kernel_rfl), ha.sub (by kernel_rfl)⟩
    · refine W_known 6 false (by kernel_rfl) hc617 ?_
      refine W_run 15 [(2, .bool false)] w614 (by kernel_rfl) ?_
      refine W_nil ?_
      obtain rfl := Option.some.inj hm
      exact N_meet fun a ha => ⟨M616.pick [] (by kernel_rfl), ha.sub (by kernel_rfl)⟩
  · intro a622 w620 ⟨M621, hS623⟩
    refine N_use hS623 ?_
    have hm := hm612
    refine N_then ?_
    refine G_ret ?_
    obtain rfl := Option.some.inj hm
    refine N_ret [.bool o610] (RVs_cons (RV_tmp (by kernel_rfl)) RVs_nil) ?_
    exact ⟨rfl, M621.pick [] (by kernel_rfl)⟩
theorem c_s_l17Find (w : World) (x645 : List Region) (p647 : Option Addr) (c648 : Nat) (h649 : rdS encRegion w x645 p647 c648) (x650 : Int) {r : Int} (hm : M.s_l17Find x645 x650 = some r) :
    Calls Try.prog 62 #[.slice p647 x645.length c648, .int .i64 x650] w fun e w' => e = .returned (.int .i64 r) ∧ Mem [] w w' [] := by
  unfold M.s_l17Find at hm
  refine C_enter Try.func62 rfl (by kernel_rfl) ?_
  have M0 := Mem.refl [] w
  refine G_seq ?_
  refine G_region ?_
  refine W_run 1 [(0, .slice p647 x645.length c648), (1, .int .i64 x650)] w (by kernel_rfl) ?_
  refine W_nil ?_
  refine N_then ?_
  refine G_seq ?_
  refine G_seq ?_
  refine G_region ?_
  refine W_run 1 [(0, .slice p647 x645.length c648), (1, .int .i64 x650), (5, .int .i64 0)] w (by kernel_rfl) ?_
  refine W_nil ?_
  refine N_then ?_
  obtain ⟨out680, hw681, hmo682⟩ := gx_bind hm
  refine G_meet (fun a w' => ∃ (o683 : Unit), out680 = .inl o683 ∧ Mem [] w w' [] ∧ Sat Try.f62.ntmps [] a) ?_ ?_
  · refine G_block ?_
    refine G_while (σ := Int) (ρ := (Unit) ⊕ (Int)) (fun s673 a w' => Mem [] w w' [] ∧ Sat Try.f62.ntmps [(0, .slice p647 x645.length c648), (1, .int .i64 x650), (5, .int .i64 s673)] a) hw681 (fun a ha => ⟨M0.pick [] (by kernel_rfl), ha.sub (by kernel_rfl)⟩) ?_
    clear hm
    intro s673 x674 hm hout675 a676 w677 ⟨M678, hS679⟩
    refine G_use hS679 ?_
    refine G_seq ?_
    refine G_seq ?_
    refine G_region ?_
    refine W_run 4 [(0, .slice p647 x645.length c648), (1, .int .i64 x650), (5, .int .i64 s673), (9, .bool (decide (s673 < (x645.length : Int))))] w677 (by kernel_rfl) ?_
    refine W_nil ?_
    refine N_then ?_
    rcases gx_bif hm with ⟨hc684, hm⟩ | ⟨hc684, hm⟩
    · refine G_cond_t (b := (decide (s673 < (x645.length : Int)))) hc684 (by kernel_rfl) ?_
      refine G_skip ?_
      refine N_then ?_
      refine G_seq ?_
      refine G_block ?_
      refine G_seq ?_
      refine G_quiet (by kernel_rfl) (by kernel_rfl) M678 ?_
      refine Z_runs [.int .i64 x650, .slice p647 x645.length c648, .int .i64 s673] [(0, .slice p647 x645.length c648), (1, .int .i64 x650), (5, .int .i64 s673), (12, .int .i64 x650), (13, .slice p647 x645.length c648), (14, .int .i64 s673)] (fun w_ => by kernel_rfl) (by kernel_rfl) ?_
      obtain ⟨y685, hy685, hm⟩ := gx_bind hm
      refine Z_val (elemP p647 (s673.toNat * 4)) (by kernel_rfl) (fun w_ M_ => (E_index (E := encRegion) _ _ _ x645.length c648 .i64 s673 4 (y := y685) rfl (by kernel_rfl) (by kernel_rfl) (by kernel_rfl) (h649.mem0 M_) rfl hy685)) ?_
      refine Z_val (elemP p647 (s673.toNat * 4 + 0)) (by kernel_rfl) (fun w_ M_ => (E_fieldE (E := encRegion) _ _ 0 (s673.toNat * 4) 0 rfl (by kernel_rfl) (by kernel_rfl) (h649.mem0 M_) hy685)) ?_
      refine Z_val (.int .i64 y685.Base) (by kernel_rfl) (fun w_ M_ => (E_loadE (E := encRegion) _ _ false 1 s673 0 (s673.toNat * 4 + 0) y685 (.int .i64 y685.Base) rfl (by kernel_rfl) (by kernel_rfl) (by kernel_rfl) (h649.mem0 M_) hy685 rfl)) ?_
      refine Z_runs [.slice p647 x645.length c648, .int .i64 s673] [(0, .slice p647 x645.length c648), (1, .int .i64 x650), (5, .int .i64 s673), (12, .int .i64 x650), (17, .int .i64 y685.Base), (18, .slice p647 x645.length c648), (19, .int .i64 s673)] (fun w_ => by kernel_rfl) (by kernel_rfl) ?_
      obtain ⟨y686, hy686, hm⟩ := gx_bind hm
      refine Z_val (elemP p647 (s673.toNat * 4)) (by kernel_rfl) (fun w_ M_ => (E_index (E := encRegion) _ _ _ x645.length c648 .i64 s673 4 (y := y686) rfl (by kernel_rfl) (by kernel_rfl) (by kernel_rfl) (h649.mem0 M_) rfl hy686)) ?_
      refine Z_val (elemP p647 (s673.toNat * 4 + 0)) (by kernel_rfl) (fun w_ M_ => (E_fieldE (E := encRegion) _ _ 0 (s673.toNat * 4) 0 rfl (by kernel_rfl) (by kernel_rfl) (h649.mem0 M_) hy686)) ?_
      refine Z_val (.int .i64 y686.Base) (by kernel_rfl) (fun w_ M_ => (E_loadE (E := encRegion) _ _ false 1 s673 0 (s673.toNat * 4 + 0) y686 (.int .i64 y686.Base) rfl (by kernel_rfl) (by kernel_rfl) (by kernel_rfl) (h649.mem0 M_) hy686 rfl)) ?_
      refine Z_runs [.slice p647 x645.length c648, .int .i64 s673] [(0, .slice p647 x645.length c648), (1, .int .i64 x650), (5, .int .i64 s673), (12, .int .i64 x650), (17, .int .i64 y685.Base), (22, .int .i64 y686.Base), (23, .slice p647 x645.length c648), (24, .int .i64 s673)] (fun w_ => by kernel_rfl) (by kernel_rfl) ?_
      obtain ⟨y687, hy687, hm⟩ := gx_bind hm
      refine Z_val (elemP p647 (s673.toNat * 4)) (by kernel_rfl) (fun w_ M_ => (E_index (E := encRegion) _ _ _ x645.length c648 .i64 s673 4 (y := y687) rfl (by kernel_rfl) (by kernel_rfl) (by kernel_rfl) (h649.mem0 M_) rfl hy687)) ?_
      refine Z_val (elemP p647 (s673.toNat * 4 + 1)) (by kernel_rfl) (fun w_ M_ => (E_fieldE (E := encRegion) _ _ 1 (s673.toNat * 4) 1 rfl (by kernel_rfl) (by kernel_rfl) (h649.mem0 M_) hy687)) ?_
      refine Z_val (.int .i64 y687.Size) (by kernel_rfl) (fun w_ M_ => (E_loadE (E := encRegion) _ _ false 1 s673 1 (s673.toNat * 4 + 1) y687 (.int .i64 y687.Size) rfl (by kernel_rfl) (by kernel_rfl) (by kernel_rfl) (h649.mem0 M_) hy687 rfl)) ?_
      refine Z_runs [.int .i64 (w64 (y686.Base + y687.Size)), .int .i64 (w64 ((w64 (y686.Base + y687.Size)) - 1))] [(0, .slice p647 x645.length c648), (1, .int .i64 x650), (5, .int .i64 s673), (12, .int .i64 x650), (17, .int .i64 y685.Base), (29, .int .i64 (w64 ((w64 (y686.Base + y687.Size)) - 1)))] (fun w_ => by kernel_rfl) (by kernel_rfl) ?_
      obtain ⟨r688, hr688, hm⟩ := gx_bind hm
      refine Z_call 76 #[.int .i64 x650, .int .i64 y685.Base, .int .i64 (w64 ((w64 (y686.Base + y687.Size)) - 1))] (.bool r688) (by kernel_rfl) (fun w_ => by kernel_rfl) (fun w_ M_ => (c_s_l1In w_ x650 y685.Base (w64 ((w64 (y686.Base + y687.Size)) - 1)) hr688).mono fun e w2_ h_ => ⟨h_.1, M_.call0 h_.2⟩) ?_
      refine Z_end fun w692 M693 => ?_
      refine N_then ?_
      rcases gx_bif hm with ⟨hc694, hm⟩ | ⟨hc694, hm⟩
      · refine G_cond_t (b := r688) hc694 (by kernel_rfl) ?_
        refine G_seq ?_
        refine G_region ?_
        refine W_run 2 [(4, .int .i64 s673)] w692 (by kernel_rfl) ?_
        refine W_nil ?_
        refine N_then ?_
        refine G_ret ?_
        refine N_block_ret ?_
        refine N_then_ret ?_
        refine N_then_ret ?_
        obtain rfl := Option.some.inj hm
        obtain rfl := hout675 _ rfl
        have hm := hmo682; simp only [Sum.elim_inr] at hm
        refine N_block_ret ?_
        refine N_meet_ret ?_
        refine N_then_ret ?_
        obtain rfl := Option.some.inj hm
        refine N_ret [.int .i64 s673] (RVs_cons (RV_tmp (by kernel_rfl)) RVs_nil) ?_
        exact ⟨rfl, M693.pick [] (by kernel_rfl)⟩
      · refine G_cond_f (b := r688) hc694 (by kernel_rfl) ?_
        refine G_skip ?_
        refine N_block ?_
        refine N_then ?_
        refine G_region ?_
        refine W_run 3 [(0, .slice p647 x645.length c648), (1, .int .i64 x650), (5, .int .i64 (w64 (s673 + 1)))] w692 (by kernel_rfl) ?_
        refine W_nil ?_
        obtain rfl := Option.some.inj hm
        exact N_loop fun a ha => ⟨_, rfl, M693.pick [] (by kernel_rfl), ha.sub (by kernel_rfl)⟩
    · refine G_cond_f (b := (decide (s673 < (x645.length : Int)))) hc684 (by kernel_rfl) ?_
      refine G_exit ?_
      refine N_then_exit ?_
      refine N_then_exit ?_
      refine N_block_eq ?_
      obtain rfl := Option.some.inj hm
      obtain rfl := hout675 _ rfl
      exact N_meet fun a ha => ⟨_, rfl, M678.pick [] (by kernel_rfl), ha.sub (by kernel_rfl)⟩
  · intro a695 w696 ⟨o683, hout_, M697, hS698⟩
    refine N_use hS698 ?_
    subst hout_
    have hm := hmo682; simp only [Sum.elim_inl] at hm
    refine N_then ?_
    refine G_seq ?_
    refine G_region ?_
    refine W_run 1 [(4, .int .i64 (-1))] w696 (by kernel_rfl) ?_
    refine W_nil ?_
    refine N_then ?_
    refine G_ret ?_
    obtain rfl := Option.some.inj hm
    refine N_ret [.int .i64 (-1)] (RVs_cons (RV_tmp (by kernel_rfl)) RVs_nil) ?_
    exact ⟨rfl, M697.pick [] (by kernel_rfl)⟩
theorem c_s_l17Allows (w : World) (x707 : Region) (x708 : Int) {r : Bool} (hm : M.s_l17Allows x707 x708 = some r) :
    Calls Try.prog 63 #[.agg #[.int .i64 x707.Base, .int .i64 x707.Size, .int .i64 x707.Kind, .int .i64 x707.Unit], .int .i64 x708] w fun e w' => e = .returned (.bool r) ∧ Mem [] w w' [] := by
  unfold M.s_l17Allows at hm
  refine C_enter Try.func63 rfl (by kernel_rfl) ?_
  have M0 := Mem.refl [] w
  refine G_seq ?_
  refine G_region ?_
  refine W_new (fun b => .pointer (some ⟨b, 0, none⟩)) (.cells ⟨[.int .i64 x707.Base, .int .i64 x707.Size, .int .i64 x707.Kind, .int .i64 x707.Unit]⟩ 59 (0, 0)) M0 rfl (by kernel_rfl) (by kernel_rfl) ?_
  intro b710 w711 M712
  refine W_run 1 [(1, .int .i64 x708), (2, .pointer (some ⟨b710, 0, none⟩))] w711 (by kernel_rfl) ?_
  refine W_nil ?_
  refine N_then ?_
  refine G_seq ?_
  obtain ⟨o715, ho716, hm717⟩ := gx_bind hm
  refine G_meet (fun a w' => Mem [] w w' [] ∧ Sat Try.f63.ntmps [(4, .bool o715)] a) ?_ ?_
  · have hm := ho716
    refine G_region ?_
    refine W_run 1 [(1, .int .i64 x708), (2, .pointer (some ⟨b710, 0, none⟩)), (5, .pointer (some ⟨b710, 2, none⟩))] w711 (by kernel_rfl) ?_
    refine W_val (.int .i64 x707.Kind) w711 (by kernel_rfl) (E_load (e := 59) (fr := (0, 0)) _ _ false 1 b710 2 [.int .i64 x707.Base, .int .i64 x707.Size, .int .i64 x707.Kind, .int .i64 x707.Unit] (.int .i64 x707.Kind) rfl (by kernel_rfl) (by kernel_rfl) (by kernel_rfl) (M712.blk 0 (b := b710) (o := .cells ⟨[.int .i64 x707.Base, .int .i64 x707.Size, .int .i64 x707.Kind, .int .i64 x707.Unit]⟩ 59 (0, 0)) (by kernel_rfl))) ?_
    refine W_run 2 [(1, .int .i64 x708), (2, .pointer (some ⟨b710, 0, none⟩)), (8, .bool (x707.Kind == 3))] w711 (by kernel_rfl) ?_
    rcases gx_bif hm with ⟨hc718, hm⟩ | ⟨hc718, hm⟩
    · refine W_known 8 true (by kernel_rfl) hc718 ?_
      refine W_run 8 [(4, .bool true)] w711 (by kernel_rfl) ?_
      refine W_nil ?_
      obtain rfl := Option.some.inj hm
      exact N_meet fun a ha => ⟨M712.pick [] (by kernel_rfl), ha.sub (by kernel_rfl)⟩
    · refine W_known 8 false (by kernel_rfl) hc718 ?_
      refine W_run 2 [(8, .bool false), (9, .int .i64 x708), (10, .pointer (some ⟨b710, 2, none⟩))] w711 (by kernel_rfl) ?_
      refine W_val (.int .i64 x707.Kind) w711 (by kernel_rfl) (E_load (e := 59) (fr := (0, 0)) _ _ false 1 b710 2 [.int .i64 x707.Base, .int .i64 x707.Size, .int .i64 x707.Kind, .int .i64 x707.Unit] (.int .i64 x707.Kind) rfl (by kernel_rfl) (by kernel_rfl) (by kernel_rfl) (M712.blk 0 (b := b710) (o := .cells ⟨[.int .i64 x707.Base, .int .i64 x707.Size, .int .i64 x707.Kind, .int .i64 x707.Unit]⟩ 59 (0, 0)) (by kernel_rfl))) ?_
      refine W_run 1 [(8, .bool false), (9, .int .i64 x708), (12, .int .u64 (IntKind.u64.wrap x707.Kind))] w711 (by kernel_rfl) ?_
      obtain ⟨q719, hq719, hm⟩ := gx_bind hm
      refine W_val (.int .i64 q719) w711 (by kernel_rfl) (E_shl _ _ _ _ 1 (IntKind.u64.wrap x707.Kind) q719 .u64 rfl (by kernel_rfl) (by kernel_rfl) hq719) ?_
      refine W_run 3 [(4, .bool (x708 == q719))] w711 (by kernel_rfl) ?_
      refine W_nil ?_
      obtain rfl := Option.some.inj hm
      exact N_meet fun a ha => ⟨M712.pick [] (by kernel_rfl), ha.sub (by kernel_rfl)⟩
  · intro a722 w720 ⟨M721, hS723⟩
    refine N_use hS723 ?_
    have hm := hm717
    refine N_then ?_
    refine G_ret ?_
    obtain rfl := Option.some.inj hm
    refine N_ret [.bool o715] (RVs_cons (RV_tmp (by kernel_rfl)) RVs_nil) ?_
    exact ⟨rfl, M721.pick [] (by kernel_rfl)⟩
theorem c_s_RouteAccess (w : World) (x363 : List Region) (p365 : Option Addr) (c366 : Nat) (h367 : rdS encRegion w x363 p365 c366) (x368 : Access) {r : Int × Int × Int × Bool} (hm : M.s_RouteAccess x363 x368 = some r) :
    Calls Try.prog 16 #[.slice p365 x363.length c366, .agg #[.int .i64 x368.Address, .int .i64 x368.Width, .bool x368.Store]] w fun e w' => e = .returned (.tuple #[.int .i64 r.1, .int .i64 r.2.1, .int .i64 r.2.2.1, .bool r.2.2.2]) ∧ Mem [] w w' [] := by
  unfold M.s_RouteAccess at hm
  refine C_enter Try.func16 rfl (by kernel_rfl) ?_
  have M0 := Mem.refl [] w
  refine G_seq ?_
  refine G_region ?_
  refine W_new (fun b => .pointer (some ⟨b, 0, none⟩)) (.cells ⟨[.int .i64 x368.Address, .int .i64 x368.Width, .bool x368.Store]⟩ 36 (0, 0)) M0 rfl (by kernel_rfl) (by kernel_rfl) ?_
  intro b370 w371 M372
  refine W_run 4 [(0, .slice p365 x363.length c366), (3, .pointer (some ⟨b370, 0, none⟩))] w371 (by kernel_rfl) ?_
  refine W_nil ?_
  refine N_then ?_
  refine G_seq ?_
  refine G_seq ?_
  obtain ⟨o628, ho629, hm630⟩ := gx_bind hm
  refine G_meet (fun a w' => Mem [] w w' [[(b370, .cells ⟨[.int .i64 x368.Address, .int .i64 x368.Width, .bool x368.Store]⟩ 36 (0, 0))]] ∧ Sat Try.f16.ntmps [(0, .slice p365 x363.length c366), (3, .pointer (some ⟨b370, 0, none⟩)), (16, .bool o628)] a) ?_ ?_
  · have hm := ho629
    refine G_region ?_
    refine W_run 1 [(0, .slice p365 x363.length c366), (3, .pointer (some ⟨b370, 0, none⟩)), (9, .slice p365 x363.length c366)] w371 (by kernel_rfl) ?_
    obtain ⟨r631, hr631, hm⟩ := gx_bind hm
    refine W_call 60 #[.slice p365 x363.length c366] (by kernel_rfl) (by kernel_rfl) ?_
    refine (c_s_l17Good w371 x363 p365 c366 (h367.mem0 M372) hr631).mono ?_
    rintro e_ w632 ⟨rfl, K633⟩
    have M634 := M372.call0 K633
    refine ⟨_, rfl, ?_⟩
    refine W_run 2 [(0, .slice p365 x363.length c366), (3, .pointer (some ⟨b370, 0, none⟩)), (12, .bool (!r631))] w632 (by kernel_rfl) ?_
    rcases gx_bif hm with ⟨hc635, hm⟩ | ⟨hc635, hm⟩
    · refine W_known 12 true (by kernel_rfl) hc635 ?_
      refine W_run 4 [(0, .slice p365 x363.length c366), (3, .pointer (some ⟨b370, 0, none⟩)), (16, .bool true)] w632 (by kernel_rfl) ?_
      refine W_nil ?_
      obtain rfl := Option.some.inj hm
      exact N_meet fun a ha => ⟨M634.pick [0] (by kernel_rfl), ha.sub (by kernel_rfl)⟩
    · refine W_known 12 false (by kernel_rfl) hc635 ?_
      refine W_val (.agg #[.int .i64 x368.Address, .int .i64 x368.Width, .bool x368.Store]) w632 (by kernel_rfl) (E_load (e := 36) (fr := (0, 0)) _ _ true 3 b370 0 [.int .i64 x368.Address, .int .i64 x368.Width, .bool x368.Store] (.agg #[.int .i64 x368.Address, .int .i64 x368.Width, .bool x368.Store]) rfl (by kernel_rfl) (by kernel_rfl) (by kernel_rfl) (M634.blk 0 (b := b370) (o := .cells ⟨[.int .i64 x368.Address, .int .i64 x368.Width, .bool x368.Store]⟩ 36 (0, 0)) (by kernel_rfl))) ?_
      obtain ⟨r636, hr636, hm⟩ := gx_bind hm
      refine W_call 61 #[.agg #[.int .i64 x368.Address, .int .i64 x368.Width, .bool x368.Store]] (by kernel_rfl) (by kernel_rfl) ?_
      refine (c_s_l17Access w632 x368 hr636).mono ?_
      rintro e_ w637 ⟨rfl, K638⟩
      have M639 := M634.call0 K638
      refine ⟨_, rfl, ?_⟩
      refine W_run 2 [(0, .slice p365 x363.length c366), (3, .pointer (some ⟨b370, 0, none⟩)), (16, .bool (!r636))] w637 (by kernel_rfl) ?_
      refine W_nil ?_
      obtain rfl := Option.some.inj hm
      exact N_meet fun a ha => ⟨M639.pick [0] (by kernel_rfl), ha.sub (by kernel_rfl)⟩
  · intro a642 w640 ⟨M641, hS643⟩
    refine N_use hS643 ?_
    have hm := hm630
    refine N_then ?_
    rcases gx_bif hm with ⟨hc644, hm⟩ | ⟨hc644, hm⟩
    · refine G_cond_t (b := o628) hc644 (by kernel_rfl) ?_
      refine G_seq ?_
      refine G_region ?_
      refine W_run 4 [(4, .int .i64 0), (5, .int .i64 0), (6, .int .i64 0), (7, .bool false)] w640 (by kernel_rfl) ?_
      refine W_nil ?_
      refine N_then ?_
      refine G_ret ?_
      refine N_then_ret ?_
      obtain rfl := Option.some.inj hm
      refine N_ret [.int .i64 0, .int .i64 0, .int .i64 0, .bool false] (RVs_cons (RV_tmp (by kernel_rfl)) (RVs_cons (RV_tmp (by kernel_rfl)) (RVs_cons (RV_tmp (by kernel_rfl)) (RVs_cons (RV_tmp (by kernel_rfl)) RVs_nil)))) ?_
      exact ⟨rfl, M641.pick [] (by kernel_rfl)⟩
    · refine G_cond_f (b := o628) hc644 (by kernel_rfl) ?_
      refine G_skip ?_
      refine N_then ?_
      refine G_seq ?_
      refine G_region ?_
      refine W_run 2 [(0, .slice p365 x363.length c366), (3, .pointer (some ⟨b370, 0, none⟩)), (17, .slice p365 x363.length c366), (18, .pointer (some ⟨b370, 0, none⟩))] w640 (by kernel_rfl) ?_
      refine W_val (.int .i64 x368.Address) w640 (by kernel_rfl) (E_load (e := 36) (fr := (0, 0)) _ _ false 1 b370 0 [.int .i64 x368.Address, .int .i64 x368.Width, .bool x368.Store] (.int .i64 x368.Address) rfl (by kernel_rfl) (by kernel_rfl) (by kernel_rfl) (M641.blk 0 (b := b370) (o := .cells ⟨[.int .i64 x368.Address, .int .i64 x368.Width, .bool x368.Store]⟩ 36 (0, 0)) (by kernel_rfl))) ?_
      obtain ⟨r699, hr699, hm⟩ := gx_bind hm
      refine W_call 62 #[.slice p365 x363.length c366, .int .i64 x368.Address] (by kernel_rfl) (by kernel_rfl) ?_
      refine (c_s_l17Find w640 x363 p365 c366 (h367.mem0 M641) x368.Address hr699).mono ?_
      rintro e_ w700 ⟨rfl, K701⟩
      have M702 := M641.call0 K701
      refine ⟨_, rfl, ?_⟩
      refine W_run 1 [(0, .slice p365 x363.length c366), (3, .pointer (some ⟨b370, 0, none⟩)), (8, .int .i64 r699)] w700 (by kernel_rfl) ?_
      refine W_nil ?_
      refine N_then ?_
      refine G_seq ?_
      refine G_block ?_
      refine G_seq ?_
      refine G_region ?_
      refine W_run 1 [(0, .slice p365 x363.length c366), (3, .pointer (some ⟨b370, 0, none⟩)), (8, .int .i64 r699), (22, .pointer (some ⟨b370, 0, none⟩))] w700 (by kernel_rfl) ?_
      refine W_val (.int .i64 x368.Address) w700 (by kernel_rfl) (E_load (e := 36) (fr := (0, 0)) _ _ false 1 b370 0 [.int .i64 x368.Address, .int .i64 x368.Width, .bool x368.Store] (.int .i64 x368.Address) rfl (by kernel_rfl) (by kernel_rfl) (by kernel_rfl) (M702.blk 0 (b := b370) (o := .cells ⟨[.int .i64 x368.Address, .int .i64 x368.Width, .bool x368.Store]⟩ 36 (0, 0)) (by kernel_rfl))) ?_
      refine W_run 1 [(0, .slice p365 x363.length c366), (3, .pointer (some ⟨b370, 0, none⟩)), (8, .int .i64 r699), (23, .int .i64 x368.Address), (24, .pointer (some ⟨b370, 1, none⟩))] w700 (by kernel_rfl) ?_
      refine W_val (.int .i64 x368.Width) w700 (by kernel_rfl) (E_load (e := 36) (fr := (0, 0)) _ _ false 1 b370 1 [.int .i64 x368.Address, .int .i64 x368.Width, .bool x368.Store] (.int .i64 x368.Width) rfl (by kernel_rfl) (by kernel_rfl) (by kernel_rfl) (M702.blk 0 (b := b370) (o := .cells ⟨[.int .i64 x368.Address, .int .i64 x368.Width, .bool x368.Store]⟩ 36 (0, 0)) (by kernel_rfl))) ?_
      obtain ⟨q703, hq703, hm⟩ := gx_bind hm
      refine W_val (.int .i64 q703) w700 (by kernel_rfl) (E_rem _ _ _ _ x368.Address x368.Width q703 rfl (by kernel_rfl) (by kernel_rfl) hq703) ?_
      refine W_run 2 [(0, .slice p365 x363.length c366), (3, .pointer (some ⟨b370, 0, none⟩)), (8, .int .i64 r699), (21, .bool (q703 != 0))] w700 (by kernel_rfl) ?_
      refine W_nil ?_
      refine N_then ?_
      rcases gx_bif hm with ⟨hc704, hm⟩ | ⟨hc704, hm⟩
      · refine G_cond_t (b := (q703 != 0)) hc704 (by kernel_rfl) ?_
        refine G_seq ?_
        refine G_region ?_
        refine W_run 4 [(4, .int .i64 (-1)), (5, .int .i64 0), (6, .int .i64 1), (7, .bool true)] w700 (by kernel_rfl) ?_
        refine W_nil ?_
        refine N_then ?_
        refine G_ret ?_
        refine N_block_ret ?_
        refine N_then_ret ?_
        obtain rfl := Option.some.inj hm
        refine N_ret [.int .i64 (-1), .int .i64 0, .int .i64 1, .bool true] (RVs_cons (RV_tmp (by kernel_rfl)) (RVs_cons (RV_tmp (by kernel_rfl)) (RVs_cons (RV_tmp (by kernel_rfl)) (RVs_cons (RV_tmp (by kernel_rfl)) RVs_nil)))) ?_
        exact ⟨rfl, M702.pick [] (by kernel_rfl)⟩
      · refine G_cond_f (b := (q703 != 0)) hc704 (by kernel_rfl) ?_
        refine G_seq ?_
        refine G_region ?_
        refine W_run 3 [(0, .slice p365 x363.length c366), (3, .pointer (some ⟨b370, 0, none⟩)), (8, .int .i64 r699), (28, .bool (decide (r699 < 0)))] w700 (by kernel_rfl) ?_
        refine W_nil ?_
        refine N_then ?_
        rcases gx_bif hm with ⟨hc705, hm⟩ | ⟨hc705, hm⟩
        · refine G_cond_t (b := (decide (r699 < 0))) hc705 (by kernel_rfl) ?_
          refine G_seq ?_
          refine G_region ?_
          refine W_run 4 [(4, .int .i64 (-1)), (5, .int .i64 0), (6, .int .i64 2), (7, .bool true)] w700 (by kernel_rfl) ?_
          refine W_nil ?_
          refine N_then ?_
          refine G_ret ?_
          refine N_block_ret ?_
          refine N_then_ret ?_
          obtain rfl := Option.some.inj hm
          refine N_ret [.int .i64 (-1), .int .i64 0, .int .i64 2, .bool true] (RVs_cons (RV_tmp (by kernel_rfl)) (RVs_cons (RV_tmp (by kernel_rfl)) (RVs_cons (RV_tmp (by kernel_rfl)) (RVs_cons (RV_tmp (by kernel_rfl)) RVs_nil)))) ?_
          exact ⟨rfl, M702.pick [] (by kernel_rfl)⟩
        · refine G_cond_f (b := (decide (r699 < 0))) hc705 (by kernel_rfl) ?_
          refine G_seq ?_
          refine G_quiet (by kernel_rfl) (by kernel_rfl) M702 ?_
          refine Z_runs [.slice p365 x363.length c366, .int .i64 r699] [(0, .slice p365 x363.length c366), (3, .pointer (some ⟨b370, 0, none⟩)), (8, .int .i64 r699), (32, .slice p365 x363.length c366), (33, .int .i64 r699)] (fun w_ => by kernel_rfl) (by kernel_rfl) ?_
          obtain ⟨y706, hy706, hm⟩ := gx_bind hm
          refine Z_val (elemP p365 (r699.toNat * 4)) (by kernel_rfl) (fun w_ M_ => (E_index (E := encRegion) _ _ _ x363.length c366 .i64 r699 4 (y := y706) rfl (by kernel_rfl) (by kernel_rfl) (by kernel_rfl) (h367.mem0 M_) rfl hy706)) ?_
          refine Z_val (.agg #[.int .i64 y706.Base, .int .i64 y706.Size, .int .i64 y706.Kind, .int .i64 y706.Unit]) (by kernel_rfl) (fun w_ M_ => (E_loadE (E := encRegion) _ _ true 4 r699 0 (r699.toNat * 4) y706 (.agg #[.int .i64 y706.Base, .int .i64 y706.Size, .int .i64 y706.Kind, .int .i64 y706.Unit]) rfl (by kernel_rfl) (by kernel_rfl) (by kernel_rfl) (h367.mem0 M_) hy706 rfl)) ?_
          refine Z_runs [.pointer (some ⟨b370, 1, none⟩)] [(0, .slice p365 x363.length c366), (3, .pointer (some ⟨b370, 0, none⟩)), (8, .int .i64 r699), (35, .agg #[.int .i64 y706.Base, .int .i64 y706.Size, .int .i64 y706.Kind, .int .i64 y706.Unit]), (36, .pointer (some ⟨b370, 1, none⟩))] (fun w_ => by kernel_rfl) (by kernel_rfl) ?_
          refine Z_val (.int .i64 x368.Width) (by kernel_rfl) (fun w_ M_ => (E_load (e := 36) (fr := (0, 0)) _ _ false 1 b370 1 [.int .i64 x368.Address, .int .i64 x368.Width, .bool x368.Store] (.int .i64 x368.Width) rfl (by kernel_rfl) (by kernel_rfl) (by kernel_rfl) (M_.blk 0 (b := b370) (o := .cells ⟨[.int .i64 x368.Address, .int .i64 x368.Width, .bool x368.Store]⟩ 36 (0, 0)) (by kernel_rfl)))) ?_
          obtain ⟨r724, hr724, hm⟩ := gx_bind hm
          refine Z_call 63 #[.agg #[.int .i64 y706.Base, .int .i64 y706.Size, .int .i64 y706.Kind, .int .i64 y706.Unit], .int .i64 x368.Width] (.bool r724) (by kernel_rfl) (fun w_ => by kernel_rfl) (fun w_ M_ => (c_s_l17Allows w_ y706 x368.Width hr724).mono fun e w2_ h_ => ⟨h_.1, M_.call0 h_.2⟩) ?_
          refine Z_runs [.bool (!r724), .bool (!r724)] [(0, .slice p365 x363.length c366), (3, .pointer (some ⟨b370, 0, none⟩)), (8, .int .i64 r699), (31, .bool (!r724))] (fun w_ => by kernel_rfl) (by kernel_rfl) ?_
          refine Z_end fun w728 M729 => ?_
          refine N_then ?_
          rcases gx_bif hm with ⟨hc730, hm⟩ | ⟨hc730, hm⟩
          · refine G_cond_t (b := (!r724)) hc730 (by kernel_rfl) ?_
            refine G_seq ?_
            refine G_region ?_
            refine W_run 4 [(4, .int .i64 (-1)), (5, .int .i64 0), (6, .int .i64 3), (7, .bool true)] w728 (by kernel_rfl) ?_
            refine W_nil ?_
            refine N_then ?_
            refine G_ret ?_
            refine N_block_ret ?_
            refine N_then_ret ?_
            obtain rfl := Option.some.inj hm
            refine N_ret [.int .i64 (-1), .int .i64 0, .int .i64 3, .bool true] (RVs_cons (RV_tmp (by kernel_rfl)) (RVs_cons (RV_tmp (by kernel_rfl)) (RVs_cons (RV_tmp (by kernel_rfl)) (RVs_cons (RV_tmp (by kernel_rfl)) RVs_nil)))) ?_
            exact ⟨rfl, M729.pick [] (by kernel_rfl)⟩
          · refine G_cond_f (b := (!r724)) hc730 (by kernel_rfl) ?_
            refine G_skip ?_
            refine N_block ?_
            refine N_then ?_
            refine G_seq ?_
            refine G_quiet (by kernel_rfl) (by kernel_rfl) M729 ?_
            refine Z_runs [.slice p365 x363.length c366, .int .i64 r699] [(0, .slice p365 x363.length c366), (3, .pointer (some ⟨b370, 0, none⟩)), (8, .int .i64 r699), (40, .slice p365 x363.length c366), (41, .int .i64 r699)] (fun w_ => by kernel_rfl) (by kernel_rfl) ?_
            obtain ⟨y731, hy731, hm⟩ := gx_bind hm
            refine Z_val (elemP p365 (r699.toNat * 4)) (by kernel_rfl) (fun w_ M_ => (E_index (E := encRegion) _ _ _ x363.length c366 .i64 r699 4 (y := y731) rfl (by kernel_rfl) (by kernel_rfl) (by kernel_rfl) (h367.mem0 M_) rfl hy731)) ?_
            refine Z_val (elemP p365 (r699.toNat * 4 + 3)) (by kernel_rfl) (fun w_ M_ => (E_fieldE (E := encRegion) _ _ 3 (r699.toNat * 4) 3 rfl (by kernel_rfl) (by kernel_rfl) (h367.mem0 M_) hy731)) ?_
            refine Z_val (.int .i64 y731.Unit) (by kernel_rfl) (fun w_ M_ => (E_loadE (E := encRegion) _ _ false 1 r699 3 (r699.toNat * 4 + 3) y731 (.int .i64 y731.Unit) rfl (by kernel_rfl) (by kernel_rfl) (by kernel_rfl) (h367.mem0 M_) hy731 rfl)) ?_
            refine Z_runs [.pointer (some ⟨b370, 0, none⟩)] [(0, .slice p365 x363.length c366), (8, .int .i64 r699), (44, .int .i64 y731.Unit), (45, .pointer (some ⟨b370, 0, none⟩))] (fun w_ => by kernel_rfl) (by kernel_rfl) ?_
            refine Z_val (.int .i64 x368.Address) (by kernel_rfl) (fun w_ M_ => (E_load (e := 36) (fr := (0, 0)) _ _ false 1 b370 0 [.int .i64 x368.Address, .int .i64 x368.Width, .bool x368.Store] (.int .i64 x368.Address) rfl (by kernel_rfl) (by kernel_rfl) (by kernel_rfl) (M_.blk 0 (b := b370) (o := .cells ⟨[.int .i64 x368.Address, .int .i64 x368.Width, .bool x368.Store]⟩ 36 (0, 0)) (by kernel_rfl)))) ?_
            refine Z_runs [.slice p365 x363.length c366, .int .i64 r699] [(44, .int .i64 y731.Unit), (46, .int .i64 x368.Address), (47, .slice p365 x363.length c366), (48, .int .i64 r699)] (fun w_ => by kernel_rfl) (by kernel_rfl) ?_
            obtain ⟨y732, hy732, hm⟩ := gx_bind hm
            refine Z_val (elemP p365 (r699.toNat * 4)) (by kernel_rfl) (fun w_ M_ => (E_index (E := encRegion) _ _ _ x363.length c366 .i64 r699 4 (y := y732) rfl (by kernel_rfl) (by kernel_rfl) (by kernel_rfl) (h367.mem0 M_) rfl hy732)) ?_
            refine Z_val (elemP p365 (r699.toNat * 4 + 0)) (by kernel_rfl) (fun w_ M_ => (E_fieldE (E := encRegion) _ _ 0 (r699.toNat * 4) 0 rfl (by kernel_rfl) (by kernel_rfl) (h367.mem0 M_) hy732)) ?_
            refine Z_val (.int .i64 y732.Base) (by kernel_rfl) (fun w_ M_ => (E_loadE (E := encRegion) _ _ false 1 r699 0 (r699.toNat * 4 + 0) y732 (.int .i64 y732.Base) rfl (by kernel_rfl) (by kernel_rfl) (by kernel_rfl) (h367.mem0 M_) hy732 rfl)) ?_
            refine Z_runs [.int .i64 (w64 (x368.Address - y732.Base)), .int .i64 y731.Unit, .int .i64 (w64 (x368.Address - y732.Base)), .int .i64 0, .bool true] [(4, .int .i64 y731.Unit), (5, .int .i64 (w64 (x368.Address - y732.Base))), (6, .int .i64 0), (7, .bool true)] (fun w_ => by kernel_rfl) (by kernel_rfl) ?_
            refine Z_end fun w733 M734 => ?_
            refine N_then ?_
            refine G_ret ?_
            obtain rfl := Option.some.inj hm
            refine N_ret [.int .i64 y731.Unit, .int .i64 (w64 (x368.Address - y732.Base)), .int .i64 0, .bool true] (RVs_cons (RV_tmp (by kernel_rfl)) (RVs_cons (RV_tmp (by kernel_rfl)) (RVs_cons (RV_tmp (by kernel_rfl)) (RVs_cons (RV_tmp (by kernel_rfl)) RVs_nil)))) ?_
            exact ⟨rfl, M734.pick [] (by kernel_rfl)⟩
theorem c_i_isSize (w : World) (x835 : Int) {r : Bool} (hm : M.i_isSize x835 = some r) :
    Calls Try.prog 73 #[.int .i64 x835] w fun e w' => e = .returned (.bool r) ∧ Mem [] w w' [] := by
  unfold M.i_isSize at hm
  refine C_enter Try.func73 rfl (by kernel_rfl) ?_
  have M0 := Mem.refl [] w
  refine G_seq ?_
  refine G_region ?_
  refine W_run 1 [(0, .int .i64 x835)] w (by kernel_rfl) ?_
  refine W_nil ?_
  refine N_then ?_
  refine G_seq ?_
  obtain ⟨o841, ho842, hm843⟩ := gx_bind hm
  refine G_meet (fun a w' => Mem [] w w' [] ∧ Sat Try.f73.ntmps [(2, .bool o841)] a) ?_ ?_
  · have hm := ho842
    refine G_region ?_
    refine W_run 1 [(0, .int .i64 x835), (3, .int .i64 x835)] w (by kernel_rfl) ?_
    obtain ⟨r844, hr844, hm⟩ := gx_bind hm
    refine W_call 58 #[.int .i64 x835, .int .i64 4, .int .i64 4096] (by kernel_rfl) (by kernel_rfl) ?_
    refine (c_i_inside w x835 4 4096 hr844).mono ?_
    rintro e_ w845 ⟨rfl, K846⟩
    have M847 := M0.call0 K846
    refine ⟨_, rfl, ?_⟩
    refine W_run 1 [(0, .int .i64 x835), (5, .bool r844)] w845 (by kernel_rfl) ?_
    rcases gx_bif hm with ⟨hc848, hm⟩ | ⟨hc848, hm⟩
    · refine W_known 5 true (by kernel_rfl) hc848 ?_
      refine W_run 7 [(2, .bool ((gxAnd .i64 x835 (w64 (x835 - 1))) == 0))] w845 (by kernel_rfl) ?_
      refine W_nil ?_
      obtain rfl := Option.some.inj hm
      exact N_meet fun a ha => ⟨M847.pick [] (by kernel_rfl), ha.sub (by kernel_rfl)⟩
    · refine W_known 5 false (by kernel_rfl) hc848 ?_
      refine W_run 7 [(2, .bool false)] w845 (by kernel_rfl) ?_
      refine W_nil ?_
      obtain rfl := Option.some.inj hm
      exact N_meet fun a ha => ⟨M847.pick [] (by kernel_rfl), ha.sub (by kernel_rfl)⟩
  · intro a851 w849 ⟨M850, hS852⟩
    refine N_use hS852 ?_
    have hm := hm843
    refine N_then ?_
    refine G_ret ?_
    obtain rfl := Option.some.inj hm
    refine N_ret [.bool o841] (RVs_cons (RV_tmp (by kernel_rfl)) RVs_nil) ?_
    exact ⟨rfl, M850.pick [] (by kernel_rfl)⟩
theorem c_i_IsRegion (w : World) (x830 : Region) {r : Bool} (hm : M.i_IsRegion x830 = some r) :
    Calls Try.prog 52 #[.agg #[.int .i64 x830.Base, .int .i64 x830.Size, .int .i64 x830.Kind, .int .i64 x830.Unit]] w fun e w' => e = .returned (.bool r) ∧ Mem [] w w' [] := by
  unfold M.i_IsRegion at hm
  refine C_enter Try.func52 rfl (by kernel_rfl) ?_
  have M0 := Mem.refl [] w
  refine G_seq ?_
  refine G_region ?_
  refine W_new (fun b => .pointer (some ⟨b, 0, none⟩)) (.cells ⟨[.int .i64 x830.Base, .int .i64 x830.Size, .int .i64 x830.Kind, .int .i64 x830.Unit]⟩ 59 (0, 0)) M0 rfl (by kernel_rfl) (by kernel_rfl) ?_
  intro b832 w833 M834
  refine W_run 1 [(1, .pointer (some ⟨b832, 0, none⟩))] w833 (by kernel_rfl) ?_
  refine W_nil ?_
  refine N_then ?_
  refine G_seq ?_
  obtain ⟨o874, ho875, hm876⟩ := gx_bind hm
  refine G_meet (fun a w' => Mem [] w w' [] ∧ Sat Try.f52.ntmps [(2, .bool o874)] a) ?_ ?_
  · have hm := ho875
    refine G_region ?_
    refine W_run 1 [(1, .pointer (some ⟨b832, 0, none⟩)), (3, .pointer (some ⟨b832, 1, none⟩))] w833 (by kernel_rfl) ?_
    refine W_val (.int .i64 x830.Size) w833 (by kernel_rfl) (E_load (e := 59) (fr := (0, 0)) _ _ false 1 b832 1 [.int .i64 x830.Base, .int .i64 x830.Size, .int .i64 x830.Kind, .int .i64 x830.Unit] (.int .i64 x830.Size) rfl (by kernel_rfl) (by kernel_rfl) (by kernel_rfl) (M834.blk 0 (b := b832) (o := .cells ⟨[.int .i64 x830.Base, .int .i64 x830.Size, .int .i64 x830.Kind, .int .i64 x830.Unit]⟩ 59 (0, 0)) (by kernel_rfl))) ?_
    obtain ⟨r877, hr877, hm⟩ := gx_bind hm
    refine W_call 73 #[.int .i64 x830.Size] (by kernel_rfl) (by kernel_rfl) ?_
    refine (c_i_isSize w833 x830.Size hr877).mono ?_
    rintro e_ w878 ⟨rfl, K879⟩
    have M880 := M834.call0 K879
    refine ⟨_, rfl, ?_⟩
    refine W_run 1 [(1, .pointer (some ⟨b832, 0, none⟩)), (6, .bool r877)] w878 (by kernel_rfl) ?_
    rcases gx_bif hm with ⟨hc881, hm⟩ | ⟨hc881, hm⟩
    · refine W_known 6 true (by kernel_rfl) hc881 ?_
      refine W_run 1 [(1, .pointer (some ⟨b832, 0, none⟩)), (6, .bool true), (7, .pointer (some ⟨b832, 0, none⟩))] w878 (by kernel_rfl) ?_
      refine W_val (.int .i64 x830.Base) w878 (by kernel_rfl) (E_load (e := 59) (fr := (0, 0)) _ _ false 1 b832 0 [.int .i64 x830.Base, .int .i64 x830.Size, .int .i64 x830.Kind, .int .i64 x830.Unit] (.int .i64 x830.Base) rfl (by kernel_rfl) (by kernel_rfl) (by kernel_rfl) (M880.blk 0 (b := b832) (o := .cells ⟨[.int .i64 x830.Base, .int .i64 x830.Size, .int .i64 x830.Kind, .int .i64 x830.Unit]⟩ 59 (0, 0)) (by kernel_rfl))) ?_
      refine W_run 1 [(1, .pointer (some ⟨b832, 0, none⟩)), (6, .bool true), (8, .int .i64 x830.Base), (9, .pointer (some ⟨b832, 1, none⟩))] w878 (by kernel_rfl) ?_
      refine W_val (.int .i64 x830.Size) w878 (by kernel_rfl) (E_load (e := 59) (fr := (0, 0)) _ _ false 1 b832 1 [.int .i64 x830.Base, .int .i64 x830.Size, .int .i64 x830.Kind, .int .i64 x830.Unit] (.int .i64 x830.Size) rfl (by kernel_rfl) (by kernel_rfl) (by kernel_rfl) (M880.blk 0 (b := b832) (o := .cells ⟨[.int .i64 x830.Base, .int .i64 x830.Size, .int .i64 x830.Kind, .int .i64 x830.Unit]⟩ 59 (0, 0)) (by kernel_rfl))) ?_
      refine W_run 1 [(1, .pointer (some ⟨b832, 0, none⟩)), (6, .bool true), (8, .int .i64 x830.Base), (11, .int .i64 (w64 (65536 - x830.Size)))] w878 (by kernel_rfl) ?_
      obtain ⟨r882, hr882, hm⟩ := gx_bind hm
      refine W_call 58 #[.int .i64 x830.Base, .int .i64 0, .int .i64 (w64 (65536 - x830.Size))] (by kernel_rfl) (by kernel_rfl) ?_
      refine (c_i_inside w878 x830.Base 0 (w64 (65536 - x830.Size)) hr882).mono ?_
      rintro e_ w883 ⟨rfl, K884⟩
      have M885 := M880.call0 K884
      refine ⟨_, rfl, ?_⟩
      refine W_run 2 [(1, .pointer (some ⟨b832, 0, none⟩)), (14, .bool r882)] w883 (by kernel_rfl) ?_
      rcases gx_bif hm with ⟨hc886, hm⟩ | ⟨hc886, hm⟩
      · refine W_known 14 true (by kernel_rfl) hc886 ?_
        refine W_run 1 [(1, .pointer (some ⟨b832, 0, none⟩)), (14, .bool true), (15, .pointer (some ⟨b832, 0, none⟩))] w883 (by kernel_rfl) ?_
        refine W_val (.int .i64 x830.Base) w883 (by kernel_rfl) (E_load (e := 59) (fr := (0, 0)) _ _ false 1 b832 0 [.int .i64 x830.Base, .int .i64 x830.Size, .int .i64 x830.Kind, .int .i64 x830.Unit] (.int .i64 x830.Base) rfl (by kernel_rfl) (by kernel_rfl) (by kernel_rfl) (M885.blk 0 (b := b832) (o := .cells ⟨[.int .i64 x830.Base, .int .i64 x830.Size, .int .i64 x830.Kind, .int .i64 x830.Unit]⟩ 59 (0, 0)) (by kernel_rfl))) ?_
        refine W_run 1 [(1, .pointer (some ⟨b832, 0, none⟩)), (14, .bool true), (16, .int .i64 x830.Base), (17, .pointer (some ⟨b832, 1, none⟩))] w883 (by kernel_rfl) ?_
        refine W_val (.int .i64 x830.Size) w883 (by kernel_rfl) (E_load (e := 59) (fr := (0, 0)) _ _ false 1 b832 1 [.int .i64 x830.Base, .int .i64 x830.Size, .int .i64 x830.Kind, .int .i64 x830.Unit] (.int .i64 x830.Size) rfl (by kernel_rfl) (by kernel_rfl) (by kernel_rfl) (M885.blk 0 (b := b832) (o := .cells ⟨[.int .i64 x830.Base, .int .i64 x830.Size, .int .i64 x830.Kind, .int .i64 x830.Unit]⟩ 59 (0, 0)) (by kernel_rfl))) ?_
        obtain ⟨q887, hq887, hm⟩ := gx_bind hm
        refine W_val (.int .i64 q887) w883 (by kernel_rfl) (E_rem _ _ _ _ x830.Base x830.Size q887 rfl (by kernel_rfl) (by kernel_rfl) hq887) ?_
        refine W_run 3 [(1, .pointer (some ⟨b832, 0, none⟩)), (22, .bool (q887 == 0))] w883 (by kernel_rfl) ?_
        rcases gx_bif hm with ⟨hc888, hm⟩ | ⟨hc888, hm⟩
        · refine W_known 22 true (by kernel_rfl) hc888 ?_
          refine W_run 1 [(1, .pointer (some ⟨b832, 0, none⟩)), (22, .bool true), (23, .pointer (some ⟨b832, 2, none⟩))] w883 (by kernel_rfl) ?_
          refine W_val (.int .i64 x830.Kind) w883 (by kernel_rfl) (E_load (e := 59) (fr := (0, 0)) _ _ false 1 b832 2 [.int .i64 x830.Base, .int .i64 x830.Size, .int .i64 x830.Kind, .int .i64 x830.Unit] (.int .i64 x830.Kind) rfl (by kernel_rfl) (by kernel_rfl) (by kernel_rfl) (M885.blk 0 (b := b832) (o := .cells ⟨[.int .i64 x830.Base, .int .i64 x830.Size, .int .i64 x830.Kind, .int .i64 x830.Unit]⟩ 59 (0, 0)) (by kernel_rfl))) ?_
          obtain ⟨r889, hr889, hm⟩ := gx_bind hm
          refine W_call 58 #[.int .i64 x830.Kind, .int .i64 0, .int .i64 3] (by kernel_rfl) (by kernel_rfl) ?_
          refine (c_i_inside w883 x830.Kind 0 3 hr889).mono ?_
          rintro e_ w890 ⟨rfl, K891⟩
          have M892 := M885.call0 K891
          refine ⟨_, rfl, ?_⟩
          refine W_run 2 [(1, .pointer (some ⟨b832, 0, none⟩)), (27, .bool r889)] w890 (by kernel_rfl) ?_
          rcases gx_bif hm with ⟨hc893, hm⟩ | ⟨hc893, hm⟩
          · refine W_known 27 true (by kernel_rfl) hc893 ?_
            refine W_run 1 [(27, .bool true), (28, .pointer (some ⟨b832, 3, none⟩))] w890 (by kernel_rfl) ?_
            refine W_val (.int .i64 x830.Unit) w890 (by kernel_rfl) (E_load (e := 59) (fr := (0, 0)) _ _ false 1 b832 3 [.int .i64 x830.Base, .int .i64 x830.Size, .int .i64 x830.Kind, .int .i64 x830.Unit] (.int .i64 x830.Unit) rfl (by kernel_rfl) (by kernel_rfl) (by kernel_rfl) (M892.blk 0 (b := b832) (o := .cells ⟨[.int .i64 x830.Base, .int .i64 x830.Size, .int .i64 x830.Kind, .int .i64 x830.Unit]⟩ 59 (0, 0)) (by kernel_rfl))) ?_
            obtain ⟨r894, hr894, hm⟩ := gx_bind hm
            refine W_call 58 #[.int .i64 x830.Unit, .int .i64 0, .int .i64 15] (by kernel_rfl) (by kernel_rfl) ?_
            refine (c_i_inside w890 x830.Unit 0 15 hr894).mono ?_
            rintro e_ w895 ⟨rfl, K896⟩
            have M897 := M892.call0 K896
            refine ⟨_, rfl, ?_⟩
            refine W_run 2 [(2, .bool r894)] w895 (by kernel_rfl) ?_
            refine W_nil ?_
            obtain rfl := Option.some.inj hm
            exact N_meet fun a ha => ⟨M897.pick [] (by kernel_rfl), ha.sub (by kernel_rfl)⟩
          · refine W_known 27 false (by kernel_rfl) hc893 ?_
            refine W_run 5 [(2, .bool false)] w890 (by kernel_rfl) ?_
            refine W_nil ?_
            obtain rfl := Option.some.inj hm
            exact N_meet fun a ha => ⟨M892.pick [] (by kernel_rfl), ha.sub (by kernel_rfl)⟩
        · refine W_known 22 false (by kernel_rfl) hc888 ?_
          refine W_run 10 [(2, .bool false)] w883 (by kernel_rfl) ?_
          refine W_nil ?_
          obtain rfl := Option.some.inj hm
          exact N_meet fun a ha => ⟨M885.pick [] (by kernel_rfl), ha.sub (by kernel_rfl)⟩
      · refine W_known 14 false (by kernel_rfl) hc886 ?_
        refine W_run 18 [(2, .bool false)] w883 (by kernel_rfl) ?_
        refine W_nil ?_
        obtain rfl := Option.some.inj hm
        exact N_meet fun a ha => ⟨M885.pick [] (by kernel_rfl), ha.sub (by kernel_rfl)⟩
    · refine W_known 6 false (by kernel_rfl) hc881 ?_
      refine W_run 26 [(2, .bool false)] w878 (by kernel_rfl) ?_
      refine W_nil ?_
      obtain rfl := Option.some.inj hm
      exact N_meet fun a ha => ⟨M880.pick [] (by kernel_rfl), ha.sub (by kernel_rfl)⟩
  · intro a900 w898 ⟨M899, hS901⟩
    refine N_use hS901 ?_
    have hm := hm876
    refine N_then ?_
    refine G_ret ?_
    obtain rfl := Option.some.inj hm
    refine N_ret [.bool o874] (RVs_cons (RV_tmp (by kernel_rfl)) RVs_nil) ?_
    exact ⟨rfl, M899.pick [] (by kernel_rfl)⟩
theorem c_i_IsMap (w : World) (x817 : List Region) (p819 : Option Addr) (c820 : Nat) (h821 : rdS encRegion w x817 p819 c820) {r : Bool} (hm : M.i_IsMap x817 = some r) :
    Calls Try.prog 49 #[.slice p819 x817.length c820] w fun e w' => e = .returned (.bool r) ∧ Mem [] w w' [] := by
  unfold M.i_IsMap at hm
  refine C_enter Try.func49 rfl (by kernel_rfl) ?_
  have M0 := Mem.refl [] w
  refine G_seq ?_
  refine G_region ?_
  refine W_run 1 [(0, .slice p819 x817.length c820)] w (by kernel_rfl) ?_
  refine W_nil ?_
  refine N_then ?_
  refine G_seq ?_
  refine G_seq ?_
  refine G_region ?_
  refine W_run 3 [(0, .slice p819 x817.length c820), (5, .slice p819 x817.length c820), (6, .int .i64 (x817.length : Int)), (7, .int .i64 0)] w (by kernel_rfl) ?_
  refine W_nil ?_
  refine N_then ?_
  obtain ⟨out989, hw990, hmo991⟩ := gx_bind hm
  refine G_meet (fun a w' => ∃ (o992 : Unit), out989 = .inl o992 ∧ Mem [] w w' [] ∧ Sat Try.f49.ntmps [(0, .slice p819 x817.length c820)] a) ?_ ?_
  · refine G_block ?_
    refine G_while (σ := Int) (ρ := (Unit) ⊕ (Bool)) (fun s982 a w' => Mem [] w w' [] ∧ Sat Try.f49.ntmps [(0, .slice p819 x817.length c820), (5, .slice p819 x817.length c820), (6, .int .i64 (x817.length : Int)), (7, .int .i64 s982)] a) hw990 (fun a ha => ⟨M0.pick [] (by kernel_rfl), ha.sub (by kernel_rfl)⟩) ?_
    clear hm
    intro s982 x983 hm hout984 a985 w986 ⟨M987, hS988⟩
    refine G_use hS988 ?_
    refine G_seq ?_
    refine G_region ?_
    refine W_run 1 [(0, .slice p819 x817.length c820), (5, .slice p819 x817.length c820), (6, .int .i64 (x817.length : Int)), (7, .int .i64 s982), (8, .bool (decide (s982 < (x817.length : Int))))] w986 (by kernel_rfl) ?_
    refine W_nil ?_
    refine N_then ?_
    refine G_seq ?_
    rcases gx_bif hm with ⟨hc993, hm⟩ | ⟨hc993, hm⟩
    · refine G_cond_t (b := (decide (s982 < (x817.length : Int)))) hc993 (by kernel_rfl) ?_
      refine G_skip ?_
      refine N_then ?_
      refine G_seq ?_
      refine G_block ?_
      refine G_seq ?_
      refine G_region ?_
      refine W_run 1 [(0, .slice p819 x817.length c820), (5, .slice p819 x817.length c820), (6, .int .i64 (x817.length : Int)), (7, .int .i64 s982), (9, .int .i64 s982)] w986 (by kernel_rfl) ?_
      obtain ⟨y994, hy994, hm⟩ := gx_bind hm
      refine W_val (elemP p819 (s982.toNat * 4)) w986 (by kernel_rfl) (E_index (E := encRegion) _ _ _ x817.length c820 .i64 s982 4 (y := y994) rfl (by kernel_rfl) (by kernel_rfl) (by kernel_rfl) (h821.mem0 M987) rfl hy994) ?_
      refine W_val (.agg #[.int .i64 y994.Base, .int .i64 y994.Size, .int .i64 y994.Kind, .int .i64 y994.Unit]) w986 (by kernel_rfl) (E_loadE (E := encRegion) _ _ true 4 s982 0 (s982.toNat * 4) y994 (.agg #[.int .i64 y994.Base, .int .i64 y994.Size, .int .i64 y994.Kind, .int .i64 y994.Unit]) rfl (by kernel_rfl) (by kernel_rfl) (by kernel_rfl) (h821.mem0 M987) hy994 rfl) ?_
      refine W_new (fun b => .pointer (some ⟨b, 0, none⟩)) (.cells ⟨[.int .i64 0, .int .i64 0, .int .i64 0, .int .i64 0]⟩ 59 (0, 0)) M987 rfl (by kernel_rfl) (by kernel_rfl) ?_
      intro b996 w997 M998
      refine W_run 1 [(0, .slice p819 x817.length c820), (3, .int .i64 s982), (4, .pointer (some ⟨b996, 0, none⟩)), (5, .slice p819 x817.length c820), (6, .int .i64 (x817.length : Int)), (7, .int .i64 s982), (11, .agg #[.int .i64 y994.Base, .int .i64 y994.Size, .int .i64 y994.Kind, .int .i64 y994.Unit])] w997 (by kernel_rfl) ?_
      refine W_store _ _ _ true 4 b996 0 [.int .i64 0, .int .i64 0, .int .i64 0, .int .i64 0] 59 (.agg #[.int .i64 y994.Base, .int .i64 y994.Size, .int .i64 y994.Kind, .int .i64 y994.Unit]) 0 [.int .i64 y994.Base, .int .i64 y994.Size, .int .i64 y994.Kind, .int .i64 y994.Unit] M998 (by kernel_rfl) rfl (by kernel_rfl) (by kernel_rfl) (by kernel_rfl) (by kernel_rfl) (by kernel_rfl) (by kernel_rfl) (by kernel_rfl) (by kernel_rfl) ?_
      intro w999 M1000
      refine W_nil ?_
      refine N_then ?_
      refine G_seq ?_
      obtain ⟨o1015, ho1016, hm1017⟩ := gx_bind hm
      refine G_meet (fun a w' => Mem [] w w' [] ∧ Sat Try.f49.ntmps [(0, .slice p819 x817.length c820), (5, .slice p819 x817.length c820), (6, .int .i64 (x817.length : Int)), (7, .int .i64 s982), (36, .bool o1015)] a) ?_ ?_
      · have hm := ho1016
        refine G_quiet (by kernel_rfl) (by kernel_rfl) M1000 ?_
        refine Z_val (.agg #[.int .i64 y994.Base, .int .i64 y994.Size, .int .i64 y994.Kind, .int .i64 y994.Unit]) (by kernel_rfl) (fun w_ M_ => (E_load (e := 59) (fr := (0, 0)) _ _ true 4 b996 0 [.int .i64 y994.Base, .int .i64 y994.Size, .int .i64 y994.Kind, .int .i64 y994.Unit] (.agg #[.int .i64 y994.Base, .int .i64 y994.Size, .int .i64 y994.Kind, .int .i64 y994.Unit]) rfl (by kernel_rfl) (by kernel_rfl) (by kernel_rfl) (M_.blk 0 (b := b996) (o := .cells ⟨[.int .i64 y994.Base, .int .i64 y994.Size, .int .i64 y994.Kind, .int .i64 y994.Unit]⟩ 59 (0, 0)) (by kernel_rfl)))) ?_
        obtain ⟨r1018, hr1018, hm⟩ := gx_bind hm
        refine Z_call 52 #[.agg #[.int .i64 y994.Base, .int .i64 y994.Size, .int .i64 y994.Kind, .int .i64 y994.Unit]] (.bool r1018) (by kernel_rfl) (fun w_ => by kernel_rfl) (fun w_ M_ => (c_i_IsRegion w_ y994 hr1018).mono fun e w2_ h_ => ⟨h_.1, M_.call0 h_.2⟩) ?_
        refine Z_runs [.bool (!r1018), .bool (!r1018)] [(0, .slice p819 x817.length c820), (3, .int .i64 s982), (4, .pointer (some ⟨b996, 0, none⟩)), (5, .slice p819 x817.length c820), (6, .int .i64 (x817.length : Int)), (7, .int .i64 s982), (15, .bool (!r1018))] (fun w_ => by kernel_rfl) (by kernel_rfl) ?_
        rcases gx_bif hm with ⟨hc1022, hm⟩ | ⟨hc1022, hm⟩
        · refine Z_known 15 true (by kernel_rfl) hc1022 ?_
          refine Z_runs [undef, undef, undef, undef, undef, undef, undef, undef, undef, undef, undef, undef, undef, undef, undef, undef, undef, undef, undef, undef, .bool true] [(0, .slice p819 x817.length c820), (5, .slice p819 x817.length c820), (6, .int .i64 (x817.length : Int)), (7, .int .i64 s982), (36, .bool true)] (fun w_ => by kernel_rfl) (by kernel_rfl) ?_
          refine Z_end fun w1023 M1024 => ?_
          obtain rfl := Option.some.inj hm
          exact N_meet fun a ha => ⟨M1024.pick [] (by kernel_rfl), ha.sub (by kernel_rfl)⟩
        · refine Z_known 15 false (by kernel_rfl) hc1022 ?_
          refine Z_runs [.int .i64 s982, .bool (decide (s982 > 0)), .bool (decide (s982 > 0))] [(0, .slice p819 x817.length c820), (3, .int .i64 s982), (4, .pointer (some ⟨b996, 0, none⟩)), (5, .slice p819 x817.length c820), (6, .int .i64 (x817.length : Int)), (7, .int .i64 s982), (15, .bool false), (18, .bool (decide (s982 > 0)))] (fun w_ => by kernel_rfl) (by kernel_rfl) ?_
          rcases gx_bif hm with ⟨hc1025, hm⟩ | ⟨hc1025, hm⟩
          · refine Z_known 18 true (by kernel_rfl) hc1025 ?_
            refine Z_runs [.slice p819 x817.length c820, .int .i64 s982, .int .i64 (w64 (s982 - 1))] [(0, .slice p819 x817.length c820), (3, .int .i64 s982), (4, .pointer (some ⟨b996, 0, none⟩)), (5, .slice p819 x817.length c820), (6, .int .i64 (x817.length : Int)), (7, .int .i64 s982), (15, .bool false), (18, .bool true), (19, .slice p819 x817.length c820), (21, .int .i64 (w64 (s982 - 1)))] (fun w_ => by kernel_rfl) (by kernel_rfl) ?_
            obtain ⟨y1026, hy1026, hm⟩ := gx_bind hm
            refine Z_val (elemP p819 ((w64 (s982 - 1)).toNat * 4)) (by kernel_rfl) (fun w_ M_ => (E_index (E := encRegion) _ _ _ x817.length c820 .i64 (w64 (s982 - 1)) 4 (y := y1026) rfl (by kernel_rfl) (by kernel_rfl) (by kernel_rfl) (h821.mem0 M_) rfl hy1026)) ?_
            refine Z_val (elemP p819 ((w64 (s982 - 1)).toNat * 4 + 0)) (by kernel_rfl) (fun w_ M_ => (E_fieldE (E := encRegion) _ _ 0 ((w64 (s982 - 1)).toNat * 4) 0 rfl (by kernel_rfl) (by kernel_rfl) (h821.mem0 M_) hy1026)) ?_
            refine Z_val (.int .i64 y1026.Base) (by kernel_rfl) (fun w_ M_ => (E_loadE (E := encRegion) _ _ false 1 (w64 (s982 - 1)) 0 ((w64 (s982 - 1)).toNat * 4 + 0) y1026 (.int .i64 y1026.Base) rfl (by kernel_rfl) (by kernel_rfl) (by kernel_rfl) (h821.mem0 M_) hy1026 rfl)) ?_
            refine Z_runs [.slice p819 x817.length c820, .int .i64 s982, .int .i64 (w64 (s982 - 1))] [(0, .slice p819 x817.length c820), (4, .pointer (some ⟨b996, 0, none⟩)), (5, .slice p819 x817.length c820), (6, .int .i64 (x817.length : Int)), (7, .int .i64 s982), (15, .bool false), (18, .bool true), (24, .int .i64 y1026.Base), (25, .slice p819 x817.length c820), (27, .int .i64 (w64 (s982 - 1)))] (fun w_ => by kernel_rfl) (by kernel_rfl) ?_
            obtain ⟨y1027, hy1027, hm⟩ := gx_bind hm
            refine Z_val (elemP p819 ((w64 (s982 - 1)).toNat * 4)) (by kernel_rfl) (fun w_ M_ => (E_index (E := encRegion) _ _ _ x817.length c820 .i64 (w64 (s982 - 1)) 4 (y := y1027) rfl (by kernel_rfl) (by kernel_rfl) (by kernel_rfl) (h821.mem0 M_) rfl hy1027)) ?_
            refine Z_val (elemP p819 ((w64 (s982 - 1)).toNat * 4 + 1)) (by kernel_rfl) (fun w_ M_ => (E_fieldE (E := encRegion) _ _ 1 ((w64 (s982 - 1)).toNat * 4) 1 rfl (by kernel_rfl) (by kernel_rfl) (h821.mem0 M_) hy1027)) ?_
            refine Z_val (.int .i64 y1027.Size) (by kernel_rfl) (fun w_ M_ => (E_loadE (E := encRegion) _ _ false 1 (w64 (s982 - 1)) 1 ((w64 (s982 - 1)).toNat * 4 + 1) y1027 (.int .i64 y1027.Size) rfl (by kernel_rfl) (by kernel_rfl) (by kernel_rfl) (h821.mem0 M_) hy1027 rfl)) ?_
            refine Z_runs [.int .i64 (w64 (y1026.Base + y1027.Size)), .pointer (some ⟨b996, 0, none⟩)] [(0, .slice p819 x817.length c820), (5, .slice p819 x817.length c820), (6, .int .i64 (x817.length : Int)), (7, .int .i64 s982), (15, .bool false), (18, .bool true), (31, .int .i64 (w64 (y1026.Base + y1027.Size))), (32, .pointer (some ⟨b996, 0, none⟩))] (fun w_ => by kernel_rfl) (by kernel_rfl) ?_
            refine Z_val (.int .i64 y994.Base) (by kernel_rfl) (fun w_ M_ => (E_load (e := 59) (fr := (0, 0)) _ _ false 1 b996 0 [.int .i64 y994.Base, .int .i64 y994.Size, .int .i64 y994.Kind, .int .i64 y994.Unit] (.int .i64 y994.Base) rfl (by kernel_rfl) (by kernel_rfl) (by kernel_rfl) (M_.blk 0 (b := b996) (o := .cells ⟨[.int .i64 y994.Base, .int .i64 y994.Size, .int .i64 y994.Kind, .int .i64 y994.Unit]⟩ 59 (0, 0)) (by kernel_rfl)))) ?_
            refine Z_runs [.bool (decide ((w64 (y1026.Base + y1027.Size)) > y994.Base)), .bool (decide ((w64 (y1026.Base + y1027.Size)) > y994.Base)), .bool (decide ((w64 (y1026.Base + y1027.Size)) > y994.Base))] [(0, .slice p819 x817.length c820), (5, .slice p819 x817.length c820), (6, .int .i64 (x817.length : Int)), (7, .int .i64 s982), (36, .bool (decide ((w64 (y1026.Base + y1027.Size)) > y994.Base)))] (fun w_ => by kernel_rfl) (by kernel_rfl) ?_
            refine Z_end fun w1028 M1029 => ?_
            obtain rfl := Option.some.inj hm
            exact N_meet fun a ha => ⟨M1029.pick [] (by kernel_rfl), ha.sub (by kernel_rfl)⟩
          · refine Z_known 18 false (by kernel_rfl) hc1025 ?_
            refine Z_runs [undef, undef, undef, undef, undef, undef, undef, undef, undef, undef, undef, undef, undef, undef, undef, undef, .bool false, .bool false] [(0, .slice p819 x817.length c820), (5, .slice p819 x817.length c820), (6, .int .i64 (x817.length : Int)), (7, .int .i64 s982), (36, .bool false)] (fun w_ => by kernel_rfl) (by kernel_rfl) ?_
            refine Z_end fun w1030 M1031 => ?_
            obtain rfl := Option.some.inj hm
            exact N_meet fun a ha => ⟨M1031.pick [] (by kernel_rfl), ha.sub (by kernel_rfl)⟩
      · intro a1034 w1032 ⟨M1033, hS1035⟩
        refine N_use hS1035 ?_
        have hm := hm1017
        refine N_then ?_
        rcases gx_bif hm with ⟨hc1036, hm⟩ | ⟨hc1036, hm⟩
        · refine G_cond_t (b := o1015) hc1036 (by kernel_rfl) ?_
          refine G_seq ?_
          refine G_region ?_
          refine W_run 1 [(2, .bool false)] w1032 (by kernel_rfl) ?_
          refine W_nil ?_
          refine N_then ?_
          refine G_ret ?_
          refine N_block_ret ?_
          refine N_then_ret ?_
          refine N_then_ret ?_
          obtain rfl := Option.some.inj hm
          obtain rfl := hout984 _ rfl
          have hm := hmo991; simp only [Sum.elim_inr] at hm
          refine N_block_ret ?_
          refine N_meet_ret ?_
          refine N_then_ret ?_
          obtain rfl := Option.some.inj hm
          refine N_ret [.bool false] (RVs_cons (RV_tmp (by kernel_rfl)) RVs_nil) ?_
          exact ⟨rfl, M1033.pick [] (by kernel_rfl)⟩
        · refine G_cond_f (b := o1015) hc1036 (by kernel_rfl) ?_
          refine G_skip ?_
          refine N_block ?_
          refine N_then ?_
          refine G_region ?_
          refine W_run 2 [(0, .slice p819 x817.length c820), (5, .slice p819 x817.length c820), (6, .int .i64 (x817.length : Int)), (7, .int .i64 (w64 (s982 + 1)))] w1032 (by kernel_rfl) ?_
          refine W_nil ?_
          obtain rfl := Option.some.inj hm
          exact N_loop fun a ha => ⟨_, rfl, M1033.pick [] (by kernel_rfl), ha.sub (by kernel_rfl)⟩
    · refine G_cond_f (b := (decide (s982 < (x817.length : Int)))) hc993 (by kernel_rfl) ?_
      refine G_exit ?_
      refine N_then_exit ?_
      refine N_then_exit ?_
      refine N_block_eq ?_
      obtain rfl := Option.some.inj hm
      obtain rfl := hout984 _ rfl
      exact N_meet fun a ha => ⟨_, rfl, M987.pick [] (by kernel_rfl), ha.sub (by kernel_rfl)⟩
  · intro a1037 w1038 ⟨o992, hout_, M1039, hS1040⟩
    refine N_use hS1040 ?_
    subst hout_
    have hm := hmo991; simp only [Sum.elim_inl] at hm
    refine N_then ?_
    refine G_seq ?_
    refine G_region ?_
    refine W_run 4 [(2, .bool (decide ((x817.length : Int) ≤ 6)))] w1038 (by kernel_rfl) ?_
    refine W_nil ?_
    refine N_then ?_
    refine G_ret ?_
    obtain rfl := Option.some.inj hm
    refine N_ret [.bool (decide ((x817.length : Int) ≤ 6))] (RVs_cons (RV_tmp (by kernel_rfl)) RVs_nil) ?_
    exact ⟨rfl, M1039.pick [] (by kernel_rfl)⟩
theorem c_i_isWord16 (w : World) (x1051 : Int) {r : Bool} (hm : M.i_isWord16 x1051 = some r) :
    Calls Try.prog 69 #[.int .i64 x1051] w fun e w' => e = .returned (.bool r) ∧ Mem [] w w' [] := by
  unfold M.i_isWord16 at hm
  refine C_enter Try.func69 rfl (by kernel_rfl) ?_
  have M0 := Mem.refl [] w
  refine G_seq ?_
  refine G_region ?_
  refine W_run 1 [(0, .int .i64 x1051)] w (by kernel_rfl) ?_
  refine W_nil ?_
  refine N_then ?_
  refine G_seq ?_
  refine G_region ?_
  refine W_run 1 [(3, .int .i64 x1051)] w (by kernel_rfl) ?_
  obtain ⟨r1052, hr1052, hm⟩ := gx_bind hm
  refine W_call 58 #[.int .i64 x1051, .int .i64 0, .int .i64 65535] (by kernel_rfl) (by kernel_rfl) ?_
  refine (c_i_inside w x1051 0 65535 hr1052).mono ?_
  rintro e_ w1053 ⟨rfl, K1054⟩
  have M1055 := M0.call0 K1054
  refine ⟨_, rfl, ?_⟩
  refine W_run 1 [(2, .bool r1052)] w1053 (by kernel_rfl) ?_
  refine W_nil ?_
  refine N_then ?_
  refine G_ret ?_
  obtain rfl := Option.some.inj hm
  refine N_ret [.bool r1052] (RVs_cons (RV_tmp (by kernel_rfl)) RVs_nil) ?_
  exact ⟨rfl, M1055.pick [] (by kernel_rfl)⟩
theorem c_i_isWidth (w : World) (x1061 : Int) {r : Bool} (hm : M.i_isWidth x1061 = some r) :
    Calls Try.prog 86 #[.int .i64 x1061] w fun e w' => e = .returned (.bool r) ∧ Mem [] w w' [] := by
  unfold M.i_isWidth at hm
  refine C_enter Try.func86 rfl (by kernel_rfl) ?_
  have M0 := Mem.refl [] w
  refine G_seq ?_
  refine G_region ?_
  refine W_run 1 [(0, .int .i64 x1061)] w (by kernel_rfl) ?_
  refine W_nil ?_
  refine N_then ?_
  refine G_seq ?_
  obtain ⟨o1064, ho1065, hm1066⟩ := gx_bind hm
  refine G_meet (fun a w' => Mem [] w w' [] ∧ Sat Try.f86.ntmps [(2, .bool o1064)] a) ?_ ?_
  · have hm := ho1065
    refine G_region ?_
    refine W_run 3 [(0, .int .i64 x1061), (5, .bool (x1061 == 1))] w (by kernel_rfl) ?_
    rcases gx_bif hm with ⟨hc1067, hm⟩ | ⟨hc1067, hm⟩
    · refine W_known 5 true (by kernel_rfl) hc1067 ?_
      refine W_run 8 [(2, .bool true)] w (by kernel_rfl) ?_
      refine W_nil ?_
      obtain rfl := Option.some.inj hm
      exact N_meet fun a ha => ⟨M0.pick [] (by kernel_rfl), ha.sub (by kernel_rfl)⟩
    · refine W_known 5 false (by kernel_rfl) hc1067 ?_
      refine W_run 4 [(0, .int .i64 x1061), (9, .bool (x1061 == 2))] w (by kernel_rfl) ?_
      rcases gx_bif hm with ⟨hc1068, hm⟩ | ⟨hc1068, hm⟩
      · refine W_known 9 true (by kernel_rfl) hc1068 ?_
        refine W_run 4 [(2, .bool true)] w (by kernel_rfl) ?_
        refine W_nil ?_
        obtain rfl := Option.some.inj hm
        exact N_meet fun a ha => ⟨M0.pick [] (by kernel_rfl), ha.sub (by kernel_rfl)⟩
      · refine W_known 9 false (by kernel_rfl) hc1068 ?_
        refine W_run 4 [(2, .bool (x1061 == 4))] w (by kernel_rfl) ?_
        refine W_nil ?_
        obtain rfl := Option.some.inj hm
        exact N_meet fun a ha => ⟨M0.pick [] (by kernel_rfl), ha.sub (by kernel_rfl)⟩
  · intro a1071 w1069 ⟨M1070, hS1072⟩
    refine N_use hS1072 ?_
    have hm := hm1066
    refine N_then ?_
    refine G_ret ?_
    obtain rfl := Option.some.inj hm
    refine N_ret [.bool o1064] (RVs_cons (RV_tmp (by kernel_rfl)) RVs_nil) ?_
    exact ⟨rfl, M1070.pick [] (by kernel_rfl)⟩
theorem c_i_isAccess (w : World) (x1046 : Access) {r : Bool} (hm : M.i_isAccess x1046 = some r) :
    Calls Try.prog 64 #[.agg #[.int .i64 x1046.Address, .int .i64 x1046.Width, .bool x1046.Store]] w fun e w' => e = .returned (.bool r) ∧ Mem [] w w' [] := by
  unfold M.i_isAccess at hm
  refine C_enter Try.func64 rfl (by kernel_rfl) ?_
  have M0 := Mem.refl [] w
  refine G_seq ?_
  refine G_region ?_
  refine W_new (fun b => .pointer (some ⟨b, 0, none⟩)) (.cells ⟨[.int .i64 x1046.Address, .int .i64 x1046.Width, .bool x1046.Store]⟩ 36 (0, 0)) M0 rfl (by kernel_rfl) (by kernel_rfl) ?_
  intro b1048 w1049 M1050
  refine W_run 1 [(1, .pointer (some ⟨b1048, 0, none⟩))] w1049 (by kernel_rfl) ?_
  refine W_nil ?_
  refine N_then ?_
  refine G_seq ?_
  obtain ⟨o1077, ho1078, hm1079⟩ := gx_bind hm
  refine G_meet (fun a w' => Mem [] w w' [] ∧ Sat Try.f64.ntmps [(2, .bool o1077)] a) ?_ ?_
  · have hm := ho1078
    refine G_region ?_
    refine W_run 1 [(1, .pointer (some ⟨b1048, 0, none⟩)), (3, .pointer (some ⟨b1048, 0, none⟩))] w1049 (by kernel_rfl) ?_
    refine W_val (.int .i64 x1046.Address) w1049 (by kernel_rfl) (E_load (e := 36) (fr := (0, 0)) _ _ false 1 b1048 0 [.int .i64 x1046.Address, .int .i64 x1046.Width, .bool x1046.Store] (.int .i64 x1046.Address) rfl (by kernel_rfl) (by kernel_rfl) (by kernel_rfl) (M1050.blk 0 (b := b1048) (o := .cells ⟨[.int .i64 x1046.Address, .int .i64 x1046.Width, .bool x1046.Store]⟩ 36 (0, 0)) (by kernel_rfl))) ?_
    obtain ⟨r1080, hr1080, hm⟩ := gx_bind hm
    refine W_call 69 #[.int .i64 x1046.Address] (by kernel_rfl) (by kernel_rfl) ?_
    refine (c_i_isWord16 w1049 x1046.Address hr1080).mono ?_
    rintro e_ w1081 ⟨rfl, K1082⟩
    have M1083 := M1050.call0 K1082
    refine ⟨_, rfl, ?_⟩
    refine W_run 1 [(1, .pointer (some ⟨b1048, 0, none⟩)), (6, .bool r1080)] w1081 (by kernel_rfl) ?_
    rcases gx_bif hm with ⟨hc1084, hm⟩ | ⟨hc1084, hm⟩
    · refine W_known 6 true (by kernel_rfl) hc1084 ?_
      refine W_run 1 [(6, .bool true), (7, .pointer (some ⟨b1048, 1, none⟩))] w1081 (by kernel_rfl) ?_
      refine W_val (.int .i64 x1046.Width) w1081 (by kernel_rfl) (E_load (e := 36) (fr := (0, 0)) _ _ false 1 b1048 1 [.int .i64 x1046.Address, .int .i64 x1046.Width, .bool x1046.Store] (.int .i64 x1046.Width) rfl (by kernel_rfl) (by kernel_rfl) (by kernel_rfl) (M1083.blk 0 (b := b1048) (o := .cells ⟨[.int .i64 x1046.Address, .int .i64 x1046.Width, .bool x1046.Store]⟩ 36 (0, 0)) (by kernel_rfl))) ?_
      obtain ⟨r1085, hr1085, hm⟩ := gx_bind hm
      refine W_call 86 #[.int .i64 x1046.Width] (by kernel_rfl) (by kernel_rfl) ?_
      refine (c_i_isWidth w1081 x1046.Width hr1085).mono ?_
      rintro e_ w1086 ⟨rfl, K1087⟩
      have M1088 := M1083.call0 K1087
      refine ⟨_, rfl, ?_⟩
      refine W_run 2 [(2, .bool r1085)] w1086 (by kernel_rfl) ?_
      refine W_nil ?_
      obtain rfl := Option.some.inj hm
      exact N_meet fun a ha => ⟨M1088.pick [] (by kernel_rfl), ha.sub (by kernel_rfl)⟩
    · refine W_known 6 false (by kernel_rfl) hc1084 ?_
      refine W_run 5 [(2, .bool false)] w1081 (by kernel_rfl) ?_
      refine W_nil ?_
      obtain rfl := Option.some.inj hm
      exact N_meet fun a ha => ⟨M1083.pick [] (by kernel_rfl), ha.sub (by kernel_rfl)⟩
  · intro a1091 w1089 ⟨M1090, hS1092⟩
    refine N_use hS1092 ?_
    have hm := hm1079
    refine N_then ?_
    refine G_ret ?_
    obtain rfl := Option.some.inj hm
    refine N_ret [.bool o1077] (RVs_cons (RV_tmp (by kernel_rfl)) RVs_nil) ?_
    exact ⟨rfl, M1090.pick [] (by kernel_rfl)⟩
theorem c_i_findRegion_1 (w : World) (x1135 : Region) (x1136 : Int) (b1137 : Nat) (hb1138 : w.heap[b1137]? = some (.cells ⟨[.int .i64 x1136]⟩ 3 (0, 0))) {r : Bool} (hm : M.i_findRegion_1 x1135 x1136 = some r) :
    Calls Try.prog 88 #[.agg #[.int .i64 x1135.Base, .int .i64 x1135.Size, .int .i64 x1135.Kind, .int .i64 x1135.Unit], .pointer (some ⟨b1137, 0, none⟩)] w fun e w' => e = .returned (.bool r) ∧ Mem [] w w' [] := by
  unfold M.i_findRegion_1 at hm
  refine C_enter Try.func88 rfl (by kernel_rfl) ?_
  have M0 := Mem.refl [] w
  refine G_seq ?_
  refine G_region ?_
  refine W_new (fun b => .pointer (some ⟨b, 0, none⟩)) (.cells ⟨[.int .i64 x1135.Base, .int .i64 x1135.Size, .int .i64 x1135.Kind, .int .i64 x1135.Unit]⟩ 59 (0, 0)) M0 rfl (by kernel_rfl) (by kernel_rfl) ?_
  intro b1141 w1142 M1143
  refine W_run 1 [(1, .pointer (some ⟨b1137, 0, none⟩)), (2, .pointer (some ⟨b1141, 0, none⟩))] w1142 (by kernel_rfl) ?_
  refine W_nil ?_
  refine N_then ?_
  refine G_seq ?_
  refine G_region ?_
  refine W_val (.int .i64 x1136) w1142 (by kernel_rfl) (E_load (e := 3) (fr := (0, 0)) _ _ false 1 b1137 0 [.int .i64 x1136] (.int .i64 x1136) rfl (by kernel_rfl) (by kernel_rfl) (by kernel_rfl) (M1143.ro hb1138)) ?_
  refine W_run 1 [(2, .pointer (some ⟨b1141, 0, none⟩)), (4, .int .i64 x1136), (5, .pointer (some ⟨b1141, 0, none⟩))] w1142 (by kernel_rfl) ?_
  refine W_val (.int .i64 x1135.Base) w1142 (by kernel_rfl) (E_load (e := 59) (fr := (0, 0)) _ _ false 1 b1141 0 [.int .i64 x1135.Base, .int .i64 x1135.Size, .int .i64 x1135.Kind, .int .i64 x1135.Unit] (.int .i64 x1135.Base) rfl (by kernel_rfl) (by kernel_rfl) (by kernel_rfl) (M1143.blk 0 (b := b1141) (o := .cells ⟨[.int .i64 x1135.Base, .int .i64 x1135.Size, .int .i64 x1135.Kind, .int .i64 x1135.Unit]⟩ 59 (0, 0)) (by kernel_rfl))) ?_
  refine W_run 1 [(2, .pointer (some ⟨b1141, 0, none⟩)), (4, .int .i64 x1136), (6, .int .i64 x1135.Base), (7, .pointer (some ⟨b1141, 0, none⟩))] w1142 (by kernel_rfl) ?_
  refine W_val (.int .i64 x1135.Base) w1142 (by kernel_rfl) (E_load (e := 59) (fr := (0, 0)) _ _ false 1 b1141 0 [.int .i64 x1135.Base, .int .i64 x1135.Size, .int .i64 x1135.Kind, .int .i64 x1135.Unit] (.int .i64 x1135.Base) rfl (by kernel_rfl) (by kernel_rfl) (by kernel_rfl) (M1143.blk 0 (b := b1141) (o := .cells ⟨[.int .i64 x1135.Base, .int .i64 x1135.Size, .int .i64 x1135.Kind, .int .i64 x1135.Unit]⟩ 59 (0, 0)) (by kernel_rfl))) ?_
  refine W_run 1 [(4, .int .i64 x1136), (6, .int .i64 x1135.Base), (8, .int .i64 x1135.Base), (9, .pointer (some ⟨b1141, 1, none⟩))] w1142 (by kernel_rfl) ?_
  refine W_val (.int .i64 x1135.Size) w1142 (by kernel_rfl) (E_load (e := 59) (fr := (0, 0)) _ _ false 1 b1141 1 [.int .i64 x1135.Base, .int .i64 x1135.Size, .int .i64 x1135.Kind, .int .i64 x1135.Unit] (.int .i64 x1135.Size) rfl (by kernel_rfl) (by kernel_rfl) (by kernel_rfl) (M1143.blk 0 (b := b1141) (o := .cells ⟨[.int .i64 x1135.Base, .int .i64 x1135.Size, .int .i64 x1135.Kind, .int .i64 x1135.Unit]⟩ 59 (0, 0)) (by kernel_rfl))) ?_
  refine W_run 2 [(4, .int .i64 x1136), (6, .int .i64 x1135.Base), (12, .int .i64 (w64 ((w64 (x1135.Base + x1135.Size)) - 1)))] w1142 (by kernel_rfl) ?_
  obtain ⟨r1144, hr1144, hm⟩ := gx_bind hm
  refine W_call 58 #[.int .i64 x1136, .int .i64 x1135.Base, .int .i64 (w64 ((w64 (x1135.Base + x1135.Size)) - 1))] (by kernel_rfl) (by kernel_rfl) ?_
  refine (c_i_inside w1142 x1136 x1135.Base (w64 ((w64 (x1135.Base + x1135.Size)) - 1)) hr1144).mono ?_
  rintro e_ w1145 ⟨rfl, K1146⟩
  have M1147 := M1143.call0 K1146
  refine ⟨_, rfl, ?_⟩
  refine W_run 1 [(3, .bool r1144)] w1145 (by kernel_rfl) ?_
  refine W_nil ?_
  refine N_then ?_
  refine G_ret ?_
  obtain rfl := Option.some.inj hm
  refine N_ret [.bool r1144] (RVs_cons (RV_tmp (by kernel_rfl)) RVs_nil) ?_
  exact ⟨rfl, M1147.pick [] (by kernel_rfl)⟩
theorem c_slices_IndexFunc_87__i_findRegion_1 (w : World) (x1124 : List Region) (p1126 : Option Addr) (c1127 : Nat) (h1128 : rdS encRegion w x1124 p1126 c1127) (x1129 : Int) (b1130 : Nat) (hb1131 : w.heap[b1130]? = some (.cells ⟨[.int .i64 x1129]⟩ 3 (0, 0))) {r : Int} (hm : M.slices_IndexFunc_87__i_findRegion_1 x1124 x1129 = some r) :
    Calls Try.prog 87 #[.slice p1126 x1124.length c1127, .func (.func 88) #[] #[.pointer (some ⟨b1130, 0, none⟩)]] w fun e w' => e = .returned (.int .i64 r) ∧ Mem [] w w' [] := by
  unfold M.slices_IndexFunc_87__i_findRegion_1 at hm
  refine C_enter Try.func87 rfl (by kernel_rfl) ?_
  have M0 := Mem.refl [] w
  refine G_seq ?_
  refine G_region ?_
  refine W_run 1 [(0, .slice p1126 x1124.length c1127), (1, .func (.func 88) #[] #[.pointer (some ⟨b1130, 0, none⟩)])] w (by kernel_rfl) ?_
  refine W_nil ?_
  refine N_then ?_
  refine G_seq ?_
  refine G_seq ?_
  refine G_region ?_
  refine W_run 3 [(0, .slice p1126 x1124.length c1127), (1, .func (.func 88) #[] #[.pointer (some ⟨b1130, 0, none⟩)]), (7, .int .i64 (x1124.length : Int)), (8, .int .i64 0)] w (by kernel_rfl) ?_
  refine W_nil ?_
  refine N_then ?_
  obtain ⟨out1167, hw1168, hmo1169⟩ := gx_bind hm
  refine G_meet (fun a w' => ∃ (o1170 : Unit), out1167 = .inl o1170 ∧ Mem [] w w' [] ∧ Sat Try.f87.ntmps [] a) ?_ ?_
  · refine G_block ?_
    refine G_while (σ := Int) (ρ := (Unit) ⊕ (Int)) (fun s1160 a w' => Mem [] w w' [] ∧ Sat Try.f87.ntmps [(0, .slice p1126 x1124.length c1127), (1, .func (.func 88) #[] #[.pointer (some ⟨b1130, 0, none⟩)]), (7, .int .i64 (x1124.length : Int)), (8, .int .i64 s1160)] a) hw1168 (fun a ha => ⟨M0.pick [] (by kernel_rfl), ha.sub (by kernel_rfl)⟩) ?_
    clear hm
    intro s1160 x1161 hm hout1162 a1163 w1164 ⟨M1165, hS1166⟩
    refine G_use hS1166 ?_
    refine G_seq ?_
    refine G_region ?_
    refine W_run 1 [(0, .slice p1126 x1124.length c1127), (1, .func (.func 88) #[] #[.pointer (some ⟨b1130, 0, none⟩)]), (7, .int .i64 (x1124.length : Int)), (8, .int .i64 s1160), (9, .bool (decide (s1160 < (x1124.length : Int))))] w1164 (by kernel_rfl) ?_
    refine W_nil ?_
    refine N_then ?_
    refine G_seq ?_
    rcases gx_bif hm with ⟨hc1171, hm⟩ | ⟨hc1171, hm⟩
    · refine G_cond_t (b := (decide (s1160 < (x1124.length : Int)))) hc1171 (by kernel_rfl) ?_
      refine G_skip ?_
      refine N_then ?_
      refine G_seq ?_
      refine G_block ?_
      refine G_seq ?_
      refine G_region ?_
      refine W_run 2 [(0, .slice p1126 x1124.length c1127), (1, .func (.func 88) #[] #[.pointer (some ⟨b1130, 0, none⟩)]), (5, .int .i64 s1160), (7, .int .i64 (x1124.length : Int)), (8, .int .i64 s1160)] w1164 (by kernel_rfl) ?_
      refine W_nil ?_
      refine N_then ?_
      refine G_seq ?_
      refine G_region ?_
      refine W_run 3 [(0, .slice p1126 x1124.length c1127), (1, .func (.func 88) #[] #[.pointer (some ⟨b1130, 0, none⟩)]), (5, .int .i64 s1160), (7, .int .i64 (x1124.length : Int)), (8, .int .i64 s1160), (11, .func (.func 88) #[] #[.pointer (some ⟨b1130, 0, none⟩)]), (12, .slice p1126 x1124.length c1127), (13, .int .i64 s1160)] w1164 (by kernel_rfl) ?_
      obtain ⟨y1172, hy1172, hm⟩ := gx_bind hm
      refine W_val (elemP p1126 (s1160.toNat * 4)) w1164 (by kernel_rfl) (E_index (E := encRegion) _ _ _ x1124.length c1127 .i64 s1160 4 (y := y1172) rfl (by kernel_rfl) (by kernel_rfl) (by kernel_rfl) (h1128.mem0 M1165) rfl hy1172) ?_
      refine W_val (.agg #[.int .i64 y1172.Base, .int .i64 y1172.Size, .int .i64 y1172.Kind, .int .i64 y1172.Unit]) w1164 (by kernel_rfl) (E_loadE (E := encRegion) _ _ true 4 s1160 0 (s1160.toNat * 4) y1172 (.agg #[.int .i64 y1172.Base, .int .i64 y1172.Size, .int .i64 y1172.Kind, .int .i64 y1172.Unit]) rfl (by kernel_rfl) (by kernel_rfl) (by kernel_rfl) (h1128.mem0 M1165) hy1172 rfl) ?_
      obtain ⟨r1173, hr1173, hm⟩ := gx_bind hm
      refine W_call 88 #[.agg #[.int .i64 y1172.Base, .int .i64 y1172.Size, .int .i64 y1172.Kind, .int .i64 y1172.Unit], .pointer (some ⟨b1130, 0, none⟩)] (by kernel_rfl) (by kernel_rfl) ?_
      refine (c_i_findRegion_1 w1164 y1172 x1129 b1130 (M1165.ro hb1131) hr1173).mono ?_
      rintro e_ w1174 ⟨rfl, K1175⟩
      have M1176 := M1165.call0 K1175
      refine ⟨_, rfl, ?_⟩
      refine W_nil ?_
      refine N_then ?_
      rcases gx_bif hm with ⟨hc1177, hm⟩ | ⟨hc1177, hm⟩
      · refine G_cond_t (b := r1173) hc1177 (by kernel_rfl) ?_
        refine G_seq ?_
        refine G_region ?_
        refine W_run 2 [(4, .int .i64 s1160)] w1174 (by kernel_rfl) ?_
        refine W_nil ?_
        refine N_then ?_
        refine G_ret ?_
        refine N_block_ret ?_
        refine N_then_ret ?_
        refine N_then_ret ?_
        obtain rfl := Option.some.inj hm
        obtain rfl := hout1162 _ rfl
        have hm := hmo1169; simp only [Sum.elim_inr] at hm
        refine N_block_ret ?_
        refine N_meet_ret ?_
        refine N_then_ret ?_
        obtain rfl := Option.some.inj hm
        refine N_ret [.int .i64 s1160] (RVs_cons (RV_tmp (by kernel_rfl)) RVs_nil) ?_
        exact ⟨rfl, M1176.pick [] (by kernel_rfl)⟩
      · refine G_cond_f (b := r1173) hc1177 (by kernel_rfl) ?_
        refine G_skip ?_
        refine N_block ?_
        refine N_then ?_
        refine G_region ?_
        refine W_run 2 [(0, .slice p1126 x1124.length c1127), (1, .func (.func 88) #[] #[.pointer (some ⟨b1130, 0, none⟩)]), (7, .int .i64 (x1124.length : Int)), (8, .int .i64 (w64 (s1160 + 1)))] w1174 (by kernel_rfl) ?_
        refine W_nil ?_
        obtain rfl := Option.some.inj hm
        exact N_loop fun a ha => ⟨_, rfl, M1176.pick [] (by kernel_rfl), ha.sub (by kernel_rfl)⟩
    · refine G_cond_f (b := (decide (s1160 < (x1124.length : Int)))) hc1171 (by kernel_rfl) ?_
      refine G_exit ?_
      refine N_then_exit ?_
      refine N_then_exit ?_
      refine N_block_eq ?_
      obtain rfl := Option.some.inj hm
      obtain rfl := hout1162 _ rfl
      exact N_meet fun a ha => ⟨_, rfl, M1165.pick [] (by kernel_rfl), ha.sub (by kernel_rfl)⟩
  · intro a1178 w1179 ⟨o1170, hout_, M1180, hS1181⟩
    refine N_use hS1181 ?_
    subst hout_
    have hm := hmo1169; simp only [Sum.elim_inl] at hm
    refine N_then ?_
    refine G_seq ?_
    refine G_region ?_
    refine W_run 1 [(4, .int .i64 (-1))] w1179 (by kernel_rfl) ?_
    refine W_nil ?_
    refine N_then ?_
    refine G_ret ?_
    obtain rfl := Option.some.inj hm
    refine N_ret [.int .i64 (-1)] (RVs_cons (RV_tmp (by kernel_rfl)) RVs_nil) ?_
    exact ⟨rfl, M1180.pick [] (by kernel_rfl)⟩
theorem c_i_findRegion (w : World) (x1114 : List Region) (p1116 : Option Addr) (c1117 : Nat) (h1118 : rdS encRegion w x1114 p1116 c1117) (x1119 : Int) {r : Int} (hm : M.i_findRegion x1114 x1119 = some r) :
    Calls Try.prog 65 #[.slice p1116 x1114.length c1117, .int .i64 x1119] w fun e w' => e = .returned (.int .i64 r) ∧ Mem [] w w' [] := by
  unfold M.i_findRegion at hm
  refine C_enter Try.func65 rfl (by kernel_rfl) ?_
  have M0 := Mem.refl [] w
  refine G_seq ?_
  refine G_region ?_
  refine W_new (fun b => .pointer (some ⟨b, 0, none⟩)) (.cells ⟨[.int .i64 x1119]⟩ 3 (0, 0)) M0 rfl (by kernel_rfl) (by kernel_rfl) ?_
  intro b1121 w1122 M1123
  refine W_run 1 [(0, .slice p1116 x1114.length c1117), (3, .pointer (some ⟨b1121, 0, none⟩))] w1122 (by kernel_rfl) ?_
  refine W_nil ?_
  refine N_then ?_
  refine G_seq ?_
  refine G_region ?_
  refine W_run 2 [(5, .slice p1116 x1114.length c1117), (6, .func (.func 88) #[] #[.pointer (some ⟨b1121, 0, none⟩)])] w1122 (by kernel_rfl) ?_
  obtain ⟨r1182, hr1182, hm⟩ := gx_bind hm
  refine W_call 87 #[.slice p1116 x1114.length c1117, .func (.func 88) #[] #[.pointer (some ⟨b1121, 0, none⟩)]] (by kernel_rfl) (by kernel_rfl) ?_
  refine (c_slices_IndexFunc_87__i_findRegion_1 w1122 x1114 p1116 c1117 (h1118.mem0 M1123) x1119 b1121 (M1123.blk 0 (b := b1121) (o := .cells ⟨[.int .i64 x1119]⟩ 3 (0, 0)) (by kernel_rfl)) hr1182).mono ?_
  rintro e_ w1183 ⟨rfl, K1184⟩
  have M1185 := M1123.call0 K1184
  refine ⟨_, rfl, ?_⟩
  refine W_run 1 [(4, .int .i64 r1182)] w1183 (by kernel_rfl) ?_
  refine W_nil ?_
  refine N_then ?_
  refine G_ret ?_
  obtain rfl := Option.some.inj hm
  refine N_ret [.int .i64 r1182] (RVs_cons (RV_tmp (by kernel_rfl)) RVs_nil) ?_
  exact ⟨rfl, M1185.pick [] (by kernel_rfl)⟩
theorem c_i_allows (w : World) (x1194 : Region) (x1195 : Int) {r : Bool} (hm : M.i_allows x1194 x1195 = some r) :
    Calls Try.prog 66 #[.agg #[.int .i64 x1194.Base, .int .i64 x1194.Size, .int .i64 x1194.Kind, .int .i64 x1194.Unit], .int .i64 x1195] w fun e w' => e = .returned (.bool r) ∧ Mem [] w w' [] := by
  unfold M.i_allows at hm
  refine C_enter Try.func66 rfl (by kernel_rfl) ?_
  have M0 := Mem.refl [] w
  refine G_seq ?_
  refine G_region ?_
  refine W_new (fun b => .pointer (some ⟨b, 0, none⟩)) (.cells ⟨[.int .i64 x1194.Base, .int .i64 x1194.Size, .int .i64 x1194.Kind, .int .i64 x1194.Unit]⟩ 59 (0, 0)) M0 rfl (by kernel_rfl) (by kernel_rfl) ?_
  intro b1197 w1198 M1199
  refine W_run 1 [(1, .int .i64 x1195), (2, .pointer (some ⟨b1197, 0, none⟩))] w1198 (by kernel_rfl) ?_
  refine W_nil ?_
  refine N_then ?_
  refine G_seq ?_
  obtain ⟨o1202, ho1203, hm1204⟩ := gx_bind hm
  refine G_meet (fun a w' => Mem [] w w' [] ∧ Sat Try.f66.ntmps [(4, .bool o1202)] a) ?_ ?_
  · have hm := ho1203
    refine G_region ?_
    refine W_run 1 [(1, .int .i64 x1195), (2, .pointer (some ⟨b1197, 0, none⟩)), (5, .pointer (some ⟨b1197, 2, none⟩))] w1198 (by kernel_rfl) ?_
    refine W_val (.int .i64 x1194.Kind) w1198 (by kernel_rfl) (E_load (e := 59) (fr := (0, 0)) _ _ false 1 b1197 2 [.int .i64 x1194.Base, .int .i64 x1194.Size, .int .i64 x1194.Kind, .int .i64 x1194.Unit] (.int .i64 x1194.Kind) rfl (by kernel_rfl) (by kernel_rfl) (by kernel_rfl) (M1199.blk 0 (b := b1197) (o := .cells ⟨[.int .i64 x1194.Base, .int .i64 x1194.Size, .int .i64 x1194.Kind, .int .i64 x1194.Unit]⟩ 59 (0, 0)) (by kernel_rfl))) ?_
    refine W_run 2 [(1, .int .i64 x1195), (2, .pointer (some ⟨b1197, 0, none⟩)), (8, .bool (x1194.Kind == 3))] w1198 (by kernel_rfl) ?_
    rcases gx_bif hm with ⟨hc1205, hm⟩ | ⟨hc1205, hm⟩
    · refine W_known 8 true (by kernel_rfl) hc1205 ?_
      refine W_run 7 [(4, .bool true)] w1198 (by kernel_rfl) ?_
      refine W_nil ?_
      obtain rfl := Option.some.inj hm
      exact N_meet fun a ha => ⟨M1199.pick [] (by kernel_rfl), ha.sub (by kernel_rfl)⟩
    · refine W_known 8 false (by kernel_rfl) hc1205 ?_
      refine W_run 2 [(8, .bool false), (9, .int .i64 x1195), (10, .pointer (some ⟨b1197, 2, none⟩))] w1198 (by kernel_rfl) ?_
      refine W_val (.int .i64 x1194.Kind) w1198 (by kernel_rfl) (E_load (e := 59) (fr := (0, 0)) _ _ false 1 b1197 2 [.int .i64 x1194.Base, .int .i64 x1194.Size, .int .i64 x1194.Kind, .int .i64 x1194.Unit] (.int .i64 x1194.Kind) rfl (by kernel_rfl) (by kernel_rfl) (by kernel_rfl) (M1199.blk 0 (b := b1197) (o := .cells ⟨[.int .i64 x1194.Base, .int .i64 x1194.Size, .int .i64 x1194.Kind, .int .i64 x1194.Unit]⟩ 59 (0, 0)) (by kernel_rfl))) ?_
      obtain ⟨q1206, hq1206, hm⟩ := gx_bind hm
      refine W_val (.int .i64 q1206) w1198 (by kernel_rfl) (E_shl _ _ _ _ 1 x1194.Kind q1206 .i64 rfl (by kernel_rfl) (by kernel_rfl) hq1206) ?_
      refine W_run 3 [(4, .bool (x1195 == q1206))] w1198 (by kernel_rfl) ?_
      refine W_nil ?_
      obtain rfl := Option.some.inj hm
      exact N_meet fun a ha => ⟨M1199.pick [] (by kernel_rfl), ha.sub (by kernel_rfl)⟩
  · intro a1209 w1207 ⟨M1208, hS1210⟩
    refine N_use hS1210 ?_
    have hm := hm1204
    refine N_then ?_
    refine G_ret ?_
    obtain rfl := Option.some.inj hm
    refine N_ret [.bool o1202] (RVs_cons (RV_tmp (by kernel_rfl)) RVs_nil) ?_
    exact ⟨rfl, M1208.pick [] (by kernel_rfl)⟩
theorem c_i_RouteAccess (w : World) (x807 : List Region) (p809 : Option Addr) (c810 : Nat) (h811 : rdS encRegion w x807 p809 c810) (x812 : Access) {r : Int × Int × Int × Bool} (hm : M.i_RouteAccess x807 x812 = some r) :
    Calls Try.prog 19 #[.slice p809 x807.length c810, .agg #[.int .i64 x812.Address, .int .i64 x812.Width, .bool x812.Store]] w fun e w' => e = .returned (.tuple #[.int .i64 r.1, .int .i64 r.2.1, .int .i64 r.2.2.1, .bool r.2.2.2]) ∧ Mem [] w w' [] := by
  unfold M.i_RouteAccess at hm
  refine C_enter Try.func19 rfl (by kernel_rfl) ?_
  have M0 := Mem.refl [] w
  refine G_seq ?_
  refine G_region ?_
  refine W_new (fun b => .pointer (some ⟨b, 0, none⟩)) (.cells ⟨[.int .i64 x812.Address, .int .i64 x812.Width, .bool x812.Store]⟩ 36 (0, 0)) M0 rfl (by kernel_rfl) (by kernel_rfl) ?_
  intro b814 w815 M816
  refine W_run 4 [(0, .slice p809 x807.length c810), (3, .pointer (some ⟨b814, 0, none⟩))] w815 (by kernel_rfl) ?_
  refine W_nil ?_
  refine N_then ?_
  refine G_seq ?_
  refine G_seq ?_
  obtain ⟨o1097, ho1098, hm1099⟩ := gx_bind hm
  refine G_meet (fun a w' => Mem [] w w' [[(b814, .cells ⟨[.int .i64 x812.Address, .int .i64 x812.Width, .bool x812.Store]⟩ 36 (0, 0))]] ∧ Sat Try.f19.ntmps [(0, .slice p809 x807.length c810), (3, .pointer (some ⟨b814, 0, none⟩)), (16, .bool o1097)] a) ?_ ?_
  · have hm := ho1098
    refine G_region ?_
    refine W_run 1 [(0, .slice p809 x807.length c810), (3, .pointer (some ⟨b814, 0, none⟩)), (9, .slice p809 x807.length c810)] w815 (by kernel_rfl) ?_
    obtain ⟨r1100, hr1100, hm⟩ := gx_bind hm
    refine W_call 49 #[.slice p809 x807.length c810] (by kernel_rfl) (by kernel_rfl) ?_
    refine (c_i_IsMap w815 x807 p809 c810 (h811.mem0 M816) hr1100).mono ?_
    rintro e_ w1101 ⟨rfl, K1102⟩
    have M1103 := M816.call0 K1102
    refine ⟨_, rfl, ?_⟩
    refine W_run 2 [(0, .slice p809 x807.length c810), (3, .pointer (some ⟨b814, 0, none⟩)), (12, .bool (!r1100))] w1101 (by kernel_rfl) ?_
    rcases gx_bif hm with ⟨hc1104, hm⟩ | ⟨hc1104, hm⟩
    · refine W_known 12 true (by kernel_rfl) hc1104 ?_
      refine W_run 4 [(0, .slice p809 x807.length c810), (3, .pointer (some ⟨b814, 0, none⟩)), (16, .bool true)] w1101 (by kernel_rfl) ?_
      refine W_nil ?_
      obtain rfl := Option.some.inj hm
      exact N_meet fun a ha => ⟨M1103.pick [0] (by kernel_rfl), ha.sub (by kernel_rfl)⟩
    · refine W_known 12 false (by kernel_rfl) hc1104 ?_
      refine W_val (.agg #[.int .i64 x812.Address, .int .i64 x812.Width, .bool x812.Store]) w1101 (by kernel_rfl) (E_load (e := 36) (fr := (0, 0)) _ _ true 3 b814 0 [.int .i64 x812.Address, .int .i64 x812.Width, .bool x812.Store] (.agg #[.int .i64 x812.Address, .int .i64 x812.Width, .bool x812.Store]) rfl (by kernel_rfl) (by kernel_rfl) (by kernel_rfl) (M1103.blk 0 (b := b814) (o := .cells ⟨[.int .i64 x812.Address, .int .i64 x812.Width, .bool x812.Store]⟩ 36 (0, 0)) (by kernel_rfl))) ?_
      obtain ⟨r1105, hr1105, hm⟩ := gx_bind hm
      refine W_call 64 #[.agg #[.int .i64 x812.Address, .int .i64 x812.Width, .bool x812.Store]] (by kernel_rfl) (by kernel_rfl) ?_
      refine (c_i_isAccess w1101 x812 hr1105).mono ?_
      rintro e_ w1106 ⟨rfl, K1107⟩
      have M1108 := M1103.call0 K1107
      refine ⟨_, rfl, ?_⟩
      refine W_run 2 [(0, .slice p809 x807.length c810), (3, .pointer (some ⟨b814, 0, none⟩)), (16, .bool (!r1105))] w1106 (by kernel_rfl) ?_
      refine W_nil ?_
      obtain rfl := Option.some.inj hm
      exact N_meet fun a ha => ⟨M1108.pick [0] (by kernel_rfl), ha.sub (by kernel_rfl)⟩
  · intro a1111 w1109 ⟨M1110, hS1112⟩
    refine N_use hS1112 ?_
    have hm := hm1099
    refine N_then ?_
    rcases gx_bif hm with ⟨hc1113, hm⟩ | ⟨hc1113, hm⟩
    · refine G_cond_t (b := o1097) hc1113 (by kernel_rfl) ?_
      refine G_seq ?_
      refine G_region ?_
      refine W_run 4 [(4, .int .i64 0), (5, .int .i64 0), (6, .int .i64 0), (7, .bool false)] w1109 (by kernel_rfl) ?_
      refine W_nil ?_
      refine N_then ?_
      refine G_ret ?_
      refine N_then_ret ?_
      obtain rfl := Option.some.inj hm
      refine N_ret [.int .i64 0, .int .i64 0, .int .i64 0, .bool false] (RVs_cons (RV_tmp (by kernel_rfl)) (RVs_cons (RV_tmp (by kernel_rfl)) (RVs_cons (RV_tmp (by kernel_rfl)) (RVs_cons (RV_tmp (by kernel_rfl)) RVs_nil)))) ?_
      exact ⟨rfl, M1110.pick [] (by kernel_rfl)⟩
    · refine G_cond_f (b := o1097) hc1113 (by kernel_rfl) ?_
      refine G_skip ?_
      refine N_then ?_
      refine G_seq ?_
      refine G_region ?_
      refine W_run 2 [(0, .slice p809 x807.length c810), (3, .pointer (some ⟨b814, 0, none⟩)), (17, .slice p809 x807.length c810), (18, .pointer (some ⟨b814, 0, none⟩))] w1109 (by kernel_rfl) ?_
      refine W_val (.int .i64 x812.Address) w1109 (by kernel_rfl) (E_load (e := 36) (fr := (0, 0)) _ _ false 1 b814 0 [.int .i64 x812.Address, .int .i64 x812.Width, .bool x812.Store] (.int .i64 x812.Address) rfl (by kernel_rfl) (by kernel_rfl) (by kernel_rfl) (M1110.blk 0 (b := b814) (o := .cells ⟨[.int .i64 x812.Address, .int .i64 x812.Width, .bool x812.Store]⟩ 36 (0, 0)) (by kernel_rfl))) ?_
      obtain ⟨r1186, hr1186, hm⟩ := gx_bind hm
      refine W_call 65 #[.slice p809 x807.length c810, .int .i64 x812.Address] (by kernel_rfl) (by kernel_rfl) ?_
      refine (c_i_findRegion w1109 x807 p809 c810 (h811.mem0 M1110) x812.Address hr1186).mono ?_
      rintro e_ w1187 ⟨rfl, K1188⟩
      have M1189 := M1110.call0 K1188
      refine ⟨_, rfl, ?_⟩
      refine W_run 1 [(0, .slice p809 x807.length c810), (3, .pointer (some ⟨b814, 0, none⟩)), (8, .int .i64 r1186)] w1187 (by kernel_rfl) ?_
      refine W_nil ?_
      refine N_then ?_
      refine G_seq ?_
      refine G_block ?_
      refine G_seq ?_
      refine G_region ?_
      refine W_run 1 [(0, .slice p809 x807.length c810), (3, .pointer (some ⟨b814, 0, none⟩)), (8, .int .i64 r1186), (22, .pointer (some ⟨b814, 0, none⟩))] w1187 (by kernel_rfl) ?_
      refine W_val (.int .i64 x812.Address) w1187 (by kernel_rfl) (E_load (e := 36) (fr := (0, 0)) _ _ false 1 b814 0 [.int .i64 x812.Address, .int .i64 x812.Width, .bool x812.Store] (.int .i64 x812.Address) rfl (by kernel_rfl) (by kernel_rfl) (by kernel_rfl) (M1189.blk 0 (b := b814) (o := .cells ⟨[.int .i64 x812.Address, .int .i64 x812.Width, .bool x812.Store]⟩ 36 (0, 0)) (by kernel_rfl))) ?_
      refine W_run 1 [(0, .slice p809 x807.length c810), (3, .pointer (some ⟨b814, 0, none⟩)), (8, .int .i64 r1186), (23, .int .i64 x812.Address), (24, .pointer (some ⟨b814, 1, none⟩))] w1187 (by kernel_rfl) ?_
      refine W_val (.int .i64 x812.Width) w1187 (by kernel_rfl) (E_load (e := 36) (fr := (0, 0)) _ _ false 1 b814 1 [.int .i64 x812.Address, .int .i64 x812.Width, .bool x812.Store] (.int .i64 x812.Width) rfl (by kernel_rfl) (by kernel_rfl) (by kernel_rfl) (M1189.blk 0 (b := b814) (o := .cells ⟨[.int .i64 x812.Address, .int .i64 x812.Width, .bool x812.Store]⟩ 36 (0, 0)) (by kernel_rfl))) ?_
      obtain ⟨q1190, hq1190, hm⟩ := gx_bind hm
      refine W_val (.int .i64 q1190) w1187 (by kernel_rfl) (E_rem _ _ _ _ x812.Address x812.Width q1190 rfl (by kernel_rfl) (by kernel_rfl) hq1190) ?_
      refine W_run 2 [(0, .slice p809 x807.length c810), (3, .pointer (some ⟨b814, 0, none⟩)), (8, .int .i64 r1186), (21, .bool (q1190 != 0))] w1187 (by kernel_rfl) ?_
      refine W_nil ?_
      refine N_then ?_
      rcases gx_bif hm with ⟨hc1191, hm⟩ | ⟨hc1191, hm⟩
      · refine G_cond_t (b := (q1190 != 0)) hc1191 (by kernel_rfl) ?_
        refine G_seq ?_
        refine G_region ?_
        refine W_run 4 [(4, .int .i64 (-1)), (5, .int .i64 0), (6, .int .i64 1), (7, .bool true)] w1187 (by kernel_rfl) ?_
        refine W_nil ?_
        refine N_then ?_
        refine G_ret ?_
        refine N_block_ret ?_
        refine N_then_ret ?_
        obtain rfl := Option.some.inj hm
        refine N_ret [.int .i64 (-1), .int .i64 0, .int .i64 1, .bool true] (RVs_cons (RV_tmp (by kernel_rfl)) (RVs_cons (RV_tmp (by kernel_rfl)) (RVs_cons (RV_tmp (by kernel_rfl)) (RVs_cons (RV_tmp (by kernel_rfl)) RVs_nil)))) ?_
        exact ⟨rfl, M1189.pick [] (by kernel_rfl)⟩
      · refine G_cond_f (b := (q1190 != 0)) hc1191 (by kernel_rfl) ?_
        refine G_seq ?_
        refine G_region ?_
        refine W_run 3 [(0, .slice p809 x807.length c810), (3, .pointer (some ⟨b814, 0, none⟩)), (8, .int .i64 r1186), (28, .bool (decide (r1186 < 0)))] w1187 (by kernel_rfl) ?_
        refine W_nil ?_
        refine N_then ?_
        rcases gx_bif hm with ⟨hc1192, hm⟩ | ⟨hc1192, hm⟩
        · refine G_cond_t (b := (decide (r1186 < 0))) hc1192 (by kernel_rfl) ?_
          refine G_seq ?_
          refine G_region ?_
          refine W_run 4 [(4, .int .i64 (-1)), (5, .int .i64 0), (6, .int .i64 2), (7, .bool true)] w1187 (by kernel_rfl) ?_
          refine W_nil ?_
          refine N_then ?_
          refine G_ret ?_
          refine N_block_ret ?_
          refine N_then_ret ?_
          obtain rfl := Option.some.inj hm
          refine N_ret [.int .i64 (-1), .int .i64 0, .int .i64 2, .bool true] (RVs_cons (RV_tmp (by kernel_rfl)) (RVs_cons (RV_tmp (by kernel_rfl)) (RVs_cons (RV_tmp (by kernel_rfl)) (RVs_cons (RV_tmp (by kernel_rfl)) RVs_nil)))) ?_
          exact ⟨rfl, M1189.pick [] (by kernel_rfl)⟩
        · refine G_cond_f (b := (decide (r1186 < 0))) hc1192 (by kernel_rfl) ?_
          refine G_seq ?_
          refine G_quiet (by kernel_rfl) (by kernel_rfl) M1189 ?_
          refine Z_runs [.slice p809 x807.length c810, .int .i64 r1186] [(0, .slice p809 x807.length c810), (3, .pointer (some ⟨b814, 0, none⟩)), (8, .int .i64 r1186), (32, .slice p809 x807.length c810), (33, .int .i64 r1186)] (fun w_ => by kernel_rfl) (by kernel_rfl) ?_
          obtain ⟨y1193, hy1193, hm⟩ := gx_bind hm
          refine Z_val (elemP p809 (r1186.toNat * 4)) (by kernel_rfl) (fun w_ M_ => (E_index (E := encRegion) _ _ _ x807.length c810 .i64 r1186 4 (y := y1193) rfl (by kernel_rfl) (by kernel_rfl) (by kernel_rfl) (h811.mem0 M_) rfl hy1193)) ?_
          refine Z_val (.agg #[.int .i64 y1193.Base, .int .i64 y1193.Size, .int .i64 y1193.Kind, .int .i64 y1193.Unit]) (by kernel_rfl) (fun w_ M_ => (E_loadE (E := encRegion) _ _ true 4 r1186 0 (r1186.toNat * 4) y1193 (.agg #[.int .i64 y1193.Base, .int .i64 y1193.Size, .int .i64 y1193.Kind, .int .i64 y1193.Unit]) rfl (by kernel_rfl) (by kernel_rfl) (by kernel_rfl) (h811.mem0 M_) hy1193 rfl)) ?_
          refine Z_runs [.pointer (some ⟨b814, 1, none⟩)] [(0, .slice p809 x807.length c810), (3, .pointer (some ⟨b814, 0, none⟩)), (8, .int .i64 r1186), (35, .agg #[.int .i64 y1193.Base, .int .i64 y1193.Size, .int .i64 y1193.Kind, .int .i64 y1193.Unit]), (36, .pointer (some ⟨b814, 1, none⟩))] (fun w_ => by kernel_rfl) (by kernel_rfl) ?_
          refine Z_val (.int .i64 x812.Width) (by kernel_rfl) (fun w_ M_ => (E_load (e := 36) (fr := (0, 0)) _ _ false 1 b814 1 [.int .i64 x812.Address, .int .i64 x812.Width, .bool x812.Store] (.int .i64 x812.Width) rfl (by kernel_rfl) (by kernel_rfl) (by kernel_rfl) (M_.blk 0 (b := b814) (o := .cells ⟨[.int .i64 x812.Address, .int .i64 x812.Width, .bool x812.Store]⟩ 36 (0, 0)) (by kernel_rfl)))) ?_
          obtain ⟨r1211, hr1211, hm⟩ := gx_bind hm
          refine Z_call 66 #[.agg #[.int .i64 y1193.Base, .int .i64 y1193.Size, .int .i64 y1193.Kind, .int .i64 y1193.Unit], .int .i64 x812.Width] (.bool r1211) (by kernel_rfl) (fun w_ => by kernel_rfl) (fun w_ M_ => (c_i_allows w_ y1193 x812.Width hr1211).mono fun e w2_ h_ => ⟨h_.1, M_.call0 h_.2⟩) ?_
          refine Z_runs [.bool (!r1211), .bool (!r1211)] [(0, .slice p809 x807.length c810), (3, .pointer (some ⟨b814, 0, none⟩)), (8, .int .i64 r1186), (31, .bool (!r1211))] (fun w_ => by kernel_rfl) (by kernel_rfl) ?_
          refine Z_end fun w1215 M1216 => ?_
          refine N_then ?_
          rcases gx_bif hm with ⟨hc1217, hm⟩ | ⟨hc1217, hm⟩
          · refine G_cond_t (b := (!r1211)) hc1217 (by kernel_rfl) ?_
            refine G_seq ?_
            refine G_region ?_
            refine W_run 4 [(4, .int .i64 (-1)), (5, .int .i64 0), (6, .int .i64 3), (7, .bool true)] w1215 (by kernel_rfl) ?_
            refine W_nil ?_
            refine N_then ?_
            refine G_ret ?_
            refine N_block_ret ?_
            refine N_then_ret ?_
            obtain rfl := Option.some.inj hm
            refine N_ret [.int .i64 (-1), .int .i64 0, .int .i64 3, .bool true] (RVs_cons (RV_tmp (by kernel_rfl)) (RVs_cons (RV_tmp (by kernel_rfl)) (RVs_cons (RV_tmp (by kernel_rfl)) (RVs_cons (RV_tmp (by kernel_rfl)) RVs_nil)))) ?_
            exact ⟨rfl, M1216.pick [] (by kernel_rfl)⟩
          · refine G_cond_f (b := (!r1211)) hc1217 (by kernel_rfl) ?_
            refine G_skip ?_
            refine N_block ?_
            refine N_then ?_
            refine G_seq ?_
            refine G_quiet (by kernel_rfl) (by kernel_rfl) M1216 ?_
            refine Z_runs [.slice p809 x807.length c810, .int .i64 r1186] [(0, .slice p809 x807.length c810), (3, .pointer (some ⟨b814, 0, none⟩)), (8, .int .i64 r1186), (40, .slice p809 x807.length c810), (41, .int .i64 r1186)] (fun w_ => by kernel_rfl) (by kernel_rfl) ?_
            obtain ⟨y1218, hy1218, hm⟩ := gx_bind hm
            refine Z_val (elemP p809 (r1186.toNat * 4)) (by kernel_rfl) (fun w_ M_ => (E_index (E := encRegion) _ _ _ x807.length c810 .i64 r1186 4 (y := y1218) rfl (by kernel_rfl) (by kernel_rfl) (by kernel_rfl) (h811.mem0 M_) rfl hy1218)) ?_
            refine Z_val (elemP p809 (r1186.toNat * 4 + 3)) (by kernel_rfl) (fun w_ M_ => (E_fieldE (E := encRegion) _ _ 3 (r1186.toNat * 4) 3 rfl (by kernel_rfl) (by kernel_rfl) (h811.mem0 M_) hy1218)) ?_
            refine Z_val (.int .i64 y1218.Unit) (by kernel_rfl) (fun w_ M_ => (E_loadE (E := encRegion) _ _ false 1 r1186 3 (r1186.toNat * 4 + 3) y1218 (.int .i64 y1218.Unit) rfl (by kernel_rfl) (by kernel_rfl) (by kernel_rfl) (h811.mem0 M_) hy1218 rfl)) ?_
            refine Z_runs [.pointer (some ⟨b814, 0, none⟩)] [(0, .slice p809 x807.length c810), (8, .int .i64 r1186), (44, .int .i64 y1218.Unit), (45, .pointer (some ⟨b814, 0, none⟩))] (fun w_ => by kernel_rfl) (by kernel_rfl) ?_
            refine Z_val (.int .i64 x812.Address) (by kernel_rfl) (fun w_ M_ => (E_load (e := 36) (fr := (0, 0)) _ _ false 1 b814 0 [.int .i64 x812.Address, .int .i64 x812.Width, .bool x812.Store] (.int .i64 x812.Address) rfl (by kernel_rfl) (by kernel_rfl) (by kernel_rfl) (M_.blk 0 (b := b814) (o := .cells ⟨[.int .i64 x812.Address, .int .i64 x812.Width, .bool x812.Store]⟩ 36 (0, 0)) (by kernel_rfl)))) ?_
            refine Z_runs [.slice p809 x807.length c810, .int .i64 r1186] [(44, .int .i64 y1218.Unit), (46, .int .i64 x812.Address), (47, .slice p809 x807.length c810), (48, .int .i64 r1186)] (fun w_ => by kernel_rfl) (by kernel_rfl) ?_
            obtain ⟨y1219, hy1219, hm⟩ := gx_bind hm
            refine Z_val (elemP p809 (r1186.toNat * 4)) (by kernel_rfl) (fun w_ M_ => (E_index (E := encRegion) _ _ _ x807.length c810 .i64 r1186 4 (y := y1219) rfl (by kernel_rfl) (by kernel_rfl) (by kernel_rfl) (h811.mem0 M_) rfl hy1219)) ?_
            refine Z_val (elemP p809 (r1186.toNat * 4 + 0)) (by kernel_rfl) (fun w_ M_ => (E_fieldE (E := encRegion) _ _ 0 (r1186.toNat * 4) 0 rfl (by kernel_rfl) (by kernel_rfl) (h811.mem0 M_) hy1219)) ?_
            refine Z_val (.int .i64 y1219.Base) (by kernel_rfl) (fun w_ M_ => (E_loadE (E := encRegion) _ _ false 1 r1186 0 (r1186.toNat * 4 + 0) y1219 (.int .i64 y1219.Base) rfl (by kernel_rfl) (by kernel_rfl) (by kernel_rfl) (h811.mem0 M_) hy1219 rfl)) ?_
            refine Z_runs [.int .i64 (w64 (x812.Address - y1219.Base)), .int .i64 y1218.Unit, .int .i64 (w64 (x812.Address - y1219.Base)), .int .i64 0, .bool true] [(4, .int .i64 y1218.Unit), (5, .int .i64 (w64 (x812.Address - y1219.Base))), (6, .int .i64 0), (7, .bool true)] (fun w_ => by kernel_rfl) (by kernel_rfl) ?_
            refine Z_end fun w1220 M1221 => ?_
            refine N_then ?_
            refine G_ret ?_
            obtain rfl := Option.some.inj hm
            refine N_ret [.int .i64 y1218.Unit, .int .i64 (w64 (x812.Address - y1219.Base)), .int .i64 0, .bool true] (RVs_cons (RV_tmp (by kernel_rfl)) (RVs_cons (RV_tmp (by kernel_rfl)) (RVs_cons (RV_tmp (by kernel_rfl)) (RVs_cons (RV_tmp (by kernel_rfl)) RVs_nil)))) ?_
            exact ⟨rfl, M1221.pick [] (by kernel_rfl)⟩
theorem c_l_eqRegion (w : World) (x1263 : Region) (x1264 : Region) {r : Bool} (hm : M.l_eqRegion x1263 x1264 = some r) :
    Calls Try.prog 67 #[.agg #[.int .i64 x1263.Base, .int .i64 x1263.Size, .int .i64 x1263.Kind, .int .i64 x1263.Unit], .agg #[.int .i64 x1264.Base, .int .i64 x1264.Size, .int .i64 x1264.Kind, .int .i64 x1264.Unit]] w fun e w' => e = .returned (.bool r) ∧ Mem [] w w' [] := by
  unfold M.l_eqRegion at hm
  refine C_enter Try.func67 rfl (by kernel_rfl) ?_
  have M0 := Mem.refl [] w
  refine G_seq ?_
  refine G_region ?_
  refine W_new (fun b => .pointer (some ⟨b, 0, none⟩)) (.cells ⟨[.int .i64 x1263.Base, .int .i64 x1263.Size, .int .i64 x1263.Kind, .int .i64 x1263.Unit]⟩ 59 (0, 0)) M0 rfl (by kernel_rfl) (by kernel_rfl) ?_
  intro b1266 w1267 M1268
  refine W_new (fun b => .pointer (some ⟨b, 0, none⟩)) (.cells ⟨[.int .i64 x1264.Base, .int .i64 x1264.Size, .int .i64 x1264.Kind, .int .i64 x1264.Unit]⟩ 59 (0, 0)) M1268 rfl (by kernel_rfl) (by kernel_rfl) ?_
  intro b1270 w1271 M1272
  refine W_run 1 [(2, .pointer (some ⟨b1266, 0, none⟩)), (3, .pointer (some ⟨b1270, 0, none⟩))] w1271 (by kernel_rfl) ?_
  refine W_nil ?_
  refine N_then ?_
  refine G_seq ?_
  refine G_seq ?_
  refine G_region ?_
  refine W_run 1 [(2, .pointer (some ⟨b1266, 0, none⟩)), (3, .pointer (some ⟨b1270, 0, none⟩)), (5, .pointer (some ⟨b1266, 0, none⟩))] w1271 (by kernel_rfl) ?_
  refine W_val (.int .i64 x1263.Base) w1271 (by kernel_rfl) (E_load (e := 59) (fr := (0, 0)) _ _ false 1 b1266 0 [.int .i64 x1263.Base, .int .i64 x1263.Size, .int .i64 x1263.Kind, .int .i64 x1263.Unit] (.int .i64 x1263.Base) rfl (by kernel_rfl) (by kernel_rfl) (by kernel_rfl) (M1272.blk 0 (b := b1266) (o := .cells ⟨[.int .i64 x1263.Base, .int .i64 x1263.Size, .int .i64 x1263.Kind, .int .i64 x1263.Unit]⟩ 59 (0, 0)) (by kernel_rfl))) ?_
  refine W_run 1 [(2, .pointer (some ⟨b1266, 0, none⟩)), (3, .pointer (some ⟨b1270, 0, none⟩)), (6, .int .i64 x1263.Base), (7, .pointer (some ⟨b1270, 0, none⟩))] w1271 (by kernel_rfl) ?_
  refine W_val (.int .i64 x1264.Base) w1271 (by kernel_rfl) (E_load (e := 59) (fr := (0, 0)) _ _ false 1 b1270 0 [.int .i64 x1264.Base, .int .i64 x1264.Size, .int .i64 x1264.Kind, .int .i64 x1264.Unit] (.int .i64 x1264.Base) rfl (by kernel_rfl) (by kernel_rfl) (by kernel_rfl) (M1272.blk 1 (b := b1270) (o := .cells ⟨[.int .i64 x1264.Base, .int .i64 x1264.Size, .int .i64 x1264.Kind, .int .i64 x1264.Unit]⟩ 59 (0, 0)) (by kernel_rfl))) ?_
  refine W_run 1 [(2, .pointer (some ⟨b1266, 0, none⟩)), (3, .pointer (some ⟨b1270, 0, none⟩)), (9, .bool (x1263.Base != x1264.Base))] w1271 (by kernel_rfl) ?_
  refine W_nil ?_
  refine N_then ?_
  rcases gx_bif hm with ⟨hc1273, hm⟩ | ⟨hc1273, hm⟩
  · refine G_cond_t (b := (x1263.Base != x1264.Base)) hc1273 (by kernel_rfl) ?_
    refine G_seq ?_
    refine G_region ?_
    refine W_run 1 [(4, .bool false)] w1271 (by kernel_rfl) ?_
    refine W_nil ?_
    refine N_then ?_
    refine G_ret ?_
    refine N_then_ret ?_
    obtain rfl := Option.some.inj hm
    refine N_ret [.bool false] (RVs_cons (RV_tmp (by kernel_rfl)) RVs_nil) ?_
    exact ⟨rfl, M1272.pick [] (by kernel_rfl)⟩
  · refine G_cond_f (b := (x1263.Base != x1264.Base)) hc1273 (by kernel_rfl) ?_
    refine G_skip ?_
    refine N_then ?_
    refine G_seq ?_
    refine G_seq ?_
    refine G_region ?_
    refine W_run 1 [(2, .pointer (some ⟨b1266, 0, none⟩)), (3, .pointer (some ⟨b1270, 0, none⟩)), (10, .pointer (some ⟨b1266, 1, none⟩))] w1271 (by kernel_rfl) ?_
    refine W_val (.int .i64 x1263.Size) w1271 (by kernel_rfl) (E_load (e := 59) (fr := (0, 0)) _ _ false 1 b1266 1 [.int .i64 x1263.Base, .int .i64 x1263.Size, .int .i64 x1263.Kind, .int .i64 x1263.Unit] (.int .i64 x1263.Size) rfl (by kernel_rfl) (by kernel_rfl) (by kernel_rfl) (M1272.blk 0 (b := b1266) (o := .cells ⟨[.int .i64 x1263.Base, .int .i64 x1263.Size, .int .i64 x1263.Kind, .int .i64 x1263.Unit]⟩ 59 (0, 0)) (by kernel_rfl))) ?_
    refine W_run 1 [(2, .pointer (some ⟨b1266, 0, none⟩)), (3, .pointer (some ⟨b1270, 0, none⟩)), (11, .int .i64 x1263.Size), (12, .pointer (some ⟨b1270, 1, none⟩))] w1271 (by kernel_rfl) ?_
    refine W_val (.int .i64 x1264.Size) w1271 (by kernel_rfl) (E_load (e := 59) (fr := (0, 0)) _ _ false 1 b1270 1 [.int .i64 x1264.Base, .int .i64 x1264.Size, .int .i64 x1264.Kind, .int .i64 x1264.Unit] (.int .i64 x1264.Size) rfl (by kernel_rfl) (by kernel_rfl) (by kernel_rfl) (M1272.blk 1 (b := b1270) (o := .cells ⟨[.int .i64 x1264.Base, .int .i64 x1264.Size, .int .i64 x1264.Kind, .int .i64 x1264.Unit]⟩ 59 (0, 0)) (by kernel_rfl))) ?_
    refine W_run 1 [(2, .pointer (some ⟨b1266, 0, none⟩)), (3, .pointer (some ⟨b1270, 0, none⟩)), (14, .bool (x1263.Size != x1264.Size))] w1271 (by kernel_rfl) ?_
    refine W_nil ?_
    refine N_then ?_
    rcases gx_bif hm with ⟨hc1274, hm⟩ | ⟨hc1274, hm⟩
    · refine G_cond_t (b := (x1263.Size != x1264.Size)) hc1274 (by kernel_rfl) ?_
      refine G_seq ?_
      refine G_region ?_
      refine W_run 1 [(4, .bool false)] w1271 (by kernel_rfl) ?_
      refine W_nil ?_
      refine N_then ?_
      refine G_ret ?_
      refine N_then_ret ?_
      obtain rfl := Option.some.inj hm
      refine N_ret [.bool false] (RVs_cons (RV_tmp (by kernel_rfl)) RVs_nil) ?_
      exact ⟨rfl, M1272.pick [] (by kernel_rfl)⟩
    · refine G_cond_f (b := (x1263.Size != x1264.Size)) hc1274 (by kernel_rfl) ?_
      refine G_skip ?_
      refine N_then ?_
      refine G_seq ?_
      refine G_seq ?_
      refine G_region ?_
      refine W_run 1 [(2, .pointer (some ⟨b1266, 0, none⟩)), (3, .pointer (some ⟨b1270, 0, none⟩)), (15, .pointer (some ⟨b1266, 2, none⟩))] w1271 (by kernel_rfl) ?_
      refine W_val (.int .i64 x1263.Kind) w1271 (by kernel_rfl) (E_load (e := 59) (fr := (0, 0)) _ _ false 1 b1266 2 [.int .i64 x1263.Base, .int .i64 x1263.Size, .int .i64 x1263.Kind, .int .i64 x1263.Unit] (.int .i64 x1263.Kind) rfl (by kernel_rfl) (by kernel_rfl) (by kernel_rfl) (M1272.blk 0 (b := b1266) (o := .cells ⟨[.int .i64 x1263.Base, .int .i64 x1263.Size, .int .i64 x1263.Kind, .int .i64 x1263.Unit]⟩ 59 (0, 0)) (by kernel_rfl))) ?_
      refine W_run 1 [(2, .pointer (some ⟨b1266, 0, none⟩)), (3, .pointer (some ⟨b1270, 0, none⟩)), (16, .int .i64 x1263.Kind), (17, .pointer (some ⟨b1270, 2, none⟩))] w1271 (by kernel_rfl) ?_
      refine W_val (.int .i64 x1264.Kind) w1271 (by kernel_rfl) (E_load (e := 59) (fr := (0, 0)) _ _ false 1 b1270 2 [.int .i64 x1264.Base, .int .i64 x1264.Size, .int .i64 x1264.Kind, .int .i64 x1264.Unit] (.int .i64 x1264.Kind) rfl (by kernel_rfl) (by kernel_rfl) (by kernel_rfl) (M1272.blk 1 (b := b1270) (o := .cells ⟨[.int .i64 x1264.Base, .int .i64 x1264.Size, .int .i64 x1264.Kind, .int .i64 x1264.Unit]⟩ 59 (0, 0)) (by kernel_rfl))) ?_
      refine W_run 1 [(2, .pointer (some ⟨b1266, 0, none⟩)), (3, .pointer (some ⟨b1270, 0, none⟩)), (19, .bool (x1263.Kind != x1264.Kind))] w1271 (by kernel_rfl) ?_
      refine W_nil ?_
      refine N_then ?_
      rcases gx_bif hm with ⟨hc1275, hm⟩ | ⟨hc1275, hm⟩
      · refine G_cond_t (b := (x1263.Kind != x1264.Kind)) hc1275 (by kernel_rfl) ?_
        refine G_seq ?_
        refine G_region ?_
        refine W_run 1 [(4, .bool false)] w1271 (by kernel_rfl) ?_
        refine W_nil ?_
        refine N_then ?_
        refine G_ret ?_
        refine N_then_ret ?_
        obtain rfl := Option.some.inj hm
        refine N_ret [.bool false] (RVs_cons (RV_tmp (by kernel_rfl)) RVs_nil) ?_
        exact ⟨rfl, M1272.pick [] (by kernel_rfl)⟩
      · refine G_cond_f (b := (x1263.Kind != x1264.Kind)) hc1275 (by kernel_rfl) ?_
        refine G_skip ?_
        refine N_then ?_
        refine G_seq ?_
        refine G_seq ?_
        refine G_region ?_
        refine W_run 1 [(3, .pointer (some ⟨b1270, 0, none⟩)), (20, .pointer (some ⟨b1266, 3, none⟩))] w1271 (by kernel_rfl) ?_
        refine W_val (.int .i64 x1263.Unit) w1271 (by kernel_rfl) (E_load (e := 59) (fr := (0, 0)) _ _ false 1 b1266 3 [.int .i64 x1263.Base, .int .i64 x1263.Size, .int .i64 x1263.Kind, .int .i64 x1263.Unit] (.int .i64 x1263.Unit) rfl (by kernel_rfl) (by kernel_rfl) (by kernel_rfl) (M1272.blk 0 (b := b1266) (o := .cells ⟨[.int .i64 x1263.Base, .int .i64 x1263.Size, .int .i64 x1263.Kind, .int .i64 x1263.Unit]⟩ 59 (0, 0)) (by kernel_rfl))) ?_
        refine W_run 1 [(21, .int .i64 x1263.Unit), (22, .pointer (some ⟨b1270, 3, none⟩))] w1271 (by kernel_rfl) ?_
        refine W_val (.int .i64 x1264.Unit) w1271 (by kernel_rfl) (E_load (e := 59) (fr := (0, 0)) _ _ false 1 b1270 3 [.int .i64 x1264.Base, .int .i64 x1264.Size, .int .i64 x1264.Kind, .int .i64 x1264.Unit] (.int .i64 x1264.Unit) rfl (by kernel_rfl) (by kernel_rfl) (by kernel_rfl) (M1272.blk 1 (b := b1270) (o := .cells ⟨[.int .i64 x1264.Base, .int .i64 x1264.Size, .int .i64 x1264.Kind, .int .i64 x1264.Unit]⟩ 59 (0, 0)) (by kernel_rfl))) ?_
        refine W_run 1 [(24, .bool (x1263.Unit != x1264.Unit))] w1271 (by kernel_rfl) ?_
        refine W_nil ?_
        refine N_then ?_
        rcases gx_bif hm with ⟨hc1276, hm⟩ | ⟨hc1276, hm⟩
        · refine G_cond_t (b := (x1263.Unit != x1264.Unit)) hc1276 (by kernel_rfl) ?_
          refine G_seq ?_
          refine G_region ?_
          refine W_run 1 [(4, .bool false)] w1271 (by kernel_rfl) ?_
          refine W_nil ?_
          refine N_then ?_
          refine G_ret ?_
          refine N_then_ret ?_
          obtain rfl := Option.some.inj hm
          refine N_ret [.bool false] (RVs_cons (RV_tmp (by kernel_rfl)) RVs_nil) ?_
          exact ⟨rfl, M1272.pick [] (by kernel_rfl)⟩
        · refine G_cond_f (b := (x1263.Unit != x1264.Unit)) hc1276 (by kernel_rfl) ?_
          refine G_skip ?_
          refine N_then ?_
          refine G_seq ?_
          refine G_region ?_
          refine W_run 1 [(4, .bool true)] w1271 (by kernel_rfl) ?_
          refine W_nil ?_
          refine N_then ?_
          refine G_ret ?_
          obtain rfl := Option.some.inj hm
          refine N_ret [.bool true] (RVs_cons (RV_tmp (by kernel_rfl)) RVs_nil) ?_
          exact ⟨rfl, M1272.pick [] (by kernel_rfl)⟩
theorem c_l_eqRegionS (w : World) (x1249 : List Region) (p1251 : Option Addr) (c1252 : Nat) (h1253 : rdS encRegion w x1249 p1251 c1252) (x1254 : List Region) (p1256 : Option Addr) (c1257 : Nat) (h1258 : rdS encRegion w x1254 p1256 c1257) {r : Bool} (hm : M.l_eqRegionS x1249 x1254 = some r) :
    Calls Try.prog 20 #[.slice p1251 x1249.length c1252, .slice p1256 x1254.length c1257] w fun e w' => e = .returned (.bool r) ∧ Mem [] w w' [] := by
  unfold M.l_eqRegionS at hm
  refine C_enter Try.func20 rfl (by kernel_rfl) ?_
  have M0 := Mem.refl [] w
  refine G_seq ?_
  refine G_region ?_
  refine W_run 1 [(0, .slice p1251 x1249.length c1252), (1, .slice p1256 x1254.length c1257)] w (by kernel_rfl) ?_
  refine W_nil ?_
  refine N_then ?_
  refine G_seq ?_
  refine G_seq ?_
  refine G_region ?_
  refine W_run 5 [(0, .slice p1251 x1249.length c1252), (1, .slice p1256 x1254.length c1257), (10, .bool ((x1249.length : Int) != (x1254.length : Int)))] w (by kernel_rfl) ?_
  refine W_nil ?_
  refine N_then ?_
  rcases gx_bif hm with ⟨hc1259, hm⟩ | ⟨hc1259, hm⟩
  · refine G_cond_t (b := ((x1249.length : Int) != (x1254.length : Int))) hc1259 (by kernel_rfl) ?_
    refine G_seq ?_
    refine G_region ?_
    refine W_run 1 [(4, .bool false)] w (by kernel_rfl) ?_
    refine W_nil ?_
    refine N_then ?_
    refine G_ret ?_
    refine N_then_ret ?_
    obtain rfl := Option.some.inj hm
    refine N_ret [.bool false] (RVs_cons (RV_tmp (by kernel_rfl)) RVs_nil) ?_
    exact ⟨rfl, M0.pick [] (by kernel_rfl)⟩
  · refine G_cond_f (b := ((x1249.length : Int) != (x1254.length : Int))) hc1259 (by kernel_rfl) ?_
    refine G_skip ?_
    refine N_then ?_
    refine G_seq ?_
    refine G_seq ?_
    refine G_region ?_
    refine W_run 1 [(0, .slice p1251 x1249.length c1252), (1, .slice p1256 x1254.length c1257), (5, .int .i64 0)] w (by kernel_rfl) ?_
    refine W_nil ?_
    refine N_then ?_
    obtain ⟨out1301, hw1302, hmo1303⟩ := gx_bind hm
    refine G_meet (fun a w' => ∃ (o1304 : Unit), out1301 = .inl o1304 ∧ Mem [] w w' [] ∧ Sat Try.f20.ntmps [] a) ?_ ?_
    · refine G_block ?_
      refine G_while (σ := Int) (ρ := (Unit) ⊕ (Bool)) (fun s1294 a w' => Mem [] w w' [] ∧ Sat Try.f20.ntmps [(0, .slice p1251 x1249.length c1252), (1, .slice p1256 x1254.length c1257), (5, .int .i64 s1294)] a) hw1302 (fun a ha => ⟨M0.pick [] (by kernel_rfl), ha.sub (by kernel_rfl)⟩) ?_
      clear hm
      intro s1294 x1295 hm hout1296 a1297 w1298 ⟨M1299, hS1300⟩
      refine G_use hS1300 ?_
      refine G_seq ?_
      refine G_seq ?_
      refine G_region ?_
      refine W_run 4 [(0, .slice p1251 x1249.length c1252), (1, .slice p1256 x1254.length c1257), (5, .int .i64 s1294), (14, .bool (decide (s1294 < (x1249.length : Int))))] w1298 (by kernel_rfl) ?_
      refine W_nil ?_
      refine N_then ?_
      rcases gx_bif hm with ⟨hc1305, hm⟩ | ⟨hc1305, hm⟩
      · refine G_cond_t (b := (decide (s1294 < (x1249.length : Int)))) hc1305 (by kernel_rfl) ?_
        refine G_skip ?_
        refine N_then ?_
        refine G_seq ?_
        refine G_block ?_
        refine G_seq ?_
        refine G_quiet (by kernel_rfl) (by kernel_rfl) M1299 ?_
        refine Z_runs [.slice p1251 x1249.length c1252, .int .i64 s1294] [(0, .slice p1251 x1249.length c1252), (1, .slice p1256 x1254.length c1257), (5, .int .i64 s1294), (17, .slice p1251 x1249.length c1252), (18, .int .i64 s1294)] (fun w_ => by kernel_rfl) (by kernel_rfl) ?_
        obtain ⟨y1306, hy1306, hm⟩ := gx_bind hm
        refine Z_val (elemP p1251 (s1294.toNat * 4)) (by kernel_rfl) (fun w_ M_ => (E_index (E := encRegion) _ _ _ x1249.length c1252 .i64 s1294 4 (y := y1306) rfl (by kernel_rfl) (by kernel_rfl) (by kernel_rfl) (h1253.mem0 M_) rfl hy1306)) ?_
        refine Z_val (.agg #[.int .i64 y1306.Base, .int .i64 y1306.Size, .int .i64 y1306.Kind, .int .i64 y1306.Unit]) (by kernel_rfl) (fun w_ M_ => (E_loadE (E := encRegion) _ _ true 4 s1294 0 (s1294.toNat * 4) y1306 (.agg #[.int .i64 y1306.Base, .int .i64 y1306.Size, .int .i64 y1306.Kind, .int .i64 y1306.Unit]) rfl (by kernel_rfl) (by kernel_rfl) (by kernel_rfl) (h1253.mem0 M_) hy1306 rfl)) ?_
        refine Z_runs [.slice p1256 x1254.length c1257, .int .i64 s1294] [(0, .slice p1251 x1249.length c1252), (1, .slice p1256 x1254.length c1257), (5, .int .i64 s1294), (20, .agg #[.int .i64 y1306.Base, .int .i64 y1306.Size, .int .i64 y1306.Kind, .int .i64 y1306.Unit]), (21, .slice p1256 x1254.length c1257), (22, .int .i64 s1294)] (fun w_ => by kernel_rfl) (by kernel_rfl) ?_
        obtain ⟨y1307, hy1307, hm⟩ := gx_bind hm
        refine Z_val (elemP p1256 (s1294.toNat * 4)) (by kernel_rfl) (fun w_ M_ => (E_index (E := encRegion) _ _ _ x1254.length c1257 .i64 s1294 4 (y := y1307) rfl (by kernel_rfl) (by kernel_rfl) (by kernel_rfl) (h1258.mem0 M_) rfl hy1307)) ?_
        refine Z_val (.agg #[.int .i64 y1307.Base, .int .i64 y1307.Size, .int .i64 y1307.Kind, .int .i64 y1307.Unit]) (by kernel_rfl) (fun w_ M_ => (E_loadE (E := encRegion) _ _ true 4 s1294 0 (s1294.toNat * 4) y1307 (.agg #[.int .i64 y1307.Base, .int .i64 y1307.Size, .int .i64 y1307.Kind, .int .i64 y1307.Unit]) rfl (by kernel_rfl) (by kernel_rfl) (by kernel_rfl) (h1258.mem0 M_) hy1307 rfl)) ?_
        obtain ⟨r1308, hr1308, hm⟩ := gx_bind hm
        refine Z_call 67 #[.agg #[.int .i64 y1306.Base, .int .i64 y1306.Size, .int .i64 y1306.Kind, .int .i64 y1306.Unit], .agg #[.int .i64 y1307.Base, .int .i64 y1307.Size, .int .i64 y1307.Kind, .int .i64 y1307.Unit]] (.bool r1308) (by kernel_rfl) (fun w_ => by kernel_rfl) (fun w_ M_ => (c_l_eqRegion w_ y1306 y1307 hr1308).mono fun e w2_ h_ => ⟨h_.1, M_.call0 h_.2⟩) ?_
        refine Z_runs [.bool (!r1308)] [(0, .slice p1251 x1249.length c1252), (1, .slice p1256 x1254.length c1257), (5, .int .i64 s1294), (26, .bool (!r1308))] (fun w_ => by kernel_rfl) (by kernel_rfl) ?_
        refine Z_end fun w1312 M1313 => ?_
        refine N_then ?_
        rcases gx_bif hm with ⟨hc1314, hm⟩ | ⟨hc1314, hm⟩
        · refine G_cond_t (b := (!r1308)) hc1314 (by kernel_rfl) ?_
          refine G_seq ?_
          refine G_region ?_
          refine W_run 1 [(4, .bool false)] w1312 (by kernel_rfl) ?_
          refine W_nil ?_
          refine N_then ?_
          refine G_ret ?_
          refine N_block_ret ?_
          refine N_then_ret ?_
          refine N_then_ret ?_
          obtain rfl := Option.some.inj hm
          obtain rfl := hout1296 _ rfl
          have hm := hmo1303; simp only [Sum.elim_inr] at hm
          refine N_block_ret ?_
          refine N_meet_ret ?_
          refine N_then_ret ?_
          obtain rfl := Option.some.inj hm
          refine N_ret [.bool false] (RVs_cons (RV_tmp (by kernel_rfl)) RVs_nil) ?_
          exact ⟨rfl, M1313.pick [] (by kernel_rfl)⟩
        · refine G_cond_f (b := (!r1308)) hc1314 (by kernel_rfl) ?_
          refine G_skip ?_
          refine N_block ?_
          refine N_then ?_
          refine G_region ?_
          refine W_run 3 [(0, .slice p1251 x1249.length c1252), (1, .slice p1256 x1254.length c1257), (5, .int .i64 (w64 (s1294 + 1)))] w1312 (by kernel_rfl) ?_
          refine W_nil ?_
          obtain rfl := Option.some.inj hm
          exact N_loop fun a ha => ⟨_, rfl, M1313.pick [] (by kernel_rfl), ha.sub (by kernel_rfl)⟩
      · refine G_cond_f (b := (decide (s1294 < (x1249.length : Int)))) hc1305 (by kernel_rfl) ?_
        refine G_exit ?_
        refine N_then_exit ?_
        refine N_then_exit ?_
        refine N_block_eq ?_
        obtain rfl := Option.some.inj hm
        obtain rfl := hout1296 _ rfl
        exact N_meet fun a ha => ⟨_, rfl, M1299.pick [] (by kernel_rfl), ha.sub (by kernel_rfl)⟩
    · intro a1315 w1316 ⟨o1304, hout_, M1317, hS1318⟩
      refine N_use hS1318 ?_
      subst hout_
      have hm := hmo1303; simp only [Sum.elim_inl] at hm
      refine N_then ?_
      refine G_seq ?_
      refine G_region ?_
      refine W_run 1 [(4, .bool true)] w1316 (by kernel_rfl) ?_
      refine W_nil ?_
      refine N_then ?_
      refine G_ret ?_
      obtain rfl := Option.some.inj hm
      refine N_ret [.bool true] (RVs_cons (RV_tmp (by kernel_rfl)) RVs_nil) ?_
      exact ⟨rfl, M1317.pick [] (by kernel_rfl)⟩
theorem c_l_FnExactRouteAccess (w : World) (x216 : List Region) (p218 : Option Addr) (c219 : Nat) (h220 : rdS encRegion w x216 p218 c219) (x221 : Access) {r : Bool} (hm : M.l_FnExactRouteAccess x216 x221 = some r) :
    Calls Try.prog 4 #[.slice p218 x216.length c219, .agg #[.int .i64 x221.Address, .int .i64 x221.Width, .bool x221.Store]] w fun e w' => e = .returned (.bool r) ∧ Mem [] w w' [] := by
  unfold M.l_FnExactRouteAccess at hm
  refine C_enter Try.func4 rfl (by kernel_rfl) ?_
  have M0 := Mem.refl [] w
  refine G_seq ?_
  refine G_region ?_
  refine W_new (fun b => .pointer (some ⟨b, 0, none⟩)) (.cells ⟨[.int .i64 x221.Address, .int .i64 x221.Width, .bool x221.Store]⟩ 30 (0, 0)) M0 rfl (by kernel_rfl) (by kernel_rfl) ?_
  intro b223 w224 M225
  refine W_run 1 [(0, .slice p218 x216.length c219), (3, .pointer (some ⟨b223, 0, none⟩))] w224 (by kernel_rfl) ?_
  refine W_nil ?_
  refine N_then ?_
  refine G_seq ?_
  refine G_region ?_
  refine W_run 1 [(0, .slice p218 x216.length c219), (3, .pointer (some ⟨b223, 0, none⟩)), (5, .int .i64 1048576)] w224 (by kernel_rfl) ?_
  refine W_nil ?_
  refine N_then ?_
  refine G_seq ?_
  refine G_region ?_
  refine W_run 2 [(0, .slice p218 x216.length c219), (3, .pointer (some ⟨b223, 0, none⟩)), (5, .int .i64 1048576), (15, .slice p218 x216.length c219), (16, .int .i64 1048576)] w224 (by kernel_rfl) ?_
  obtain ⟨r233, hr233, hm⟩ := gx_bind hm
  refine W_call 15 #[.slice p218 x216.length c219, .int .i64 1048576] (by kernel_rfl) (by kernel_rfl) ?_
  refine (c_l_szRegionS w224 x216 p218 c219 (h220.mem0 M225) 1048576 hr233).mono ?_
  rintro e_ w234 ⟨rfl, K235⟩
  have M236 := M225.call0 K235
  refine ⟨_, rfl, ?_⟩
  refine W_run 1 [(0, .slice p218 x216.length c219), (3, .pointer (some ⟨b223, 0, none⟩)), (5, .int .i64 r233)] w234 (by kernel_rfl) ?_
  refine W_nil ?_
  refine N_then ?_
  refine G_seq ?_
  refine G_seq ?_
  refine G_region ?_
  refine W_run 2 [(0, .slice p218 x216.length c219), (3, .pointer (some ⟨b223, 0, none⟩)), (19, .bool (decide (r233 < 0)))] w234 (by kernel_rfl) ?_
  refine W_nil ?_
  refine N_then ?_
  rcases gx_bif hm with ⟨hc237, hm⟩ | ⟨hc237, hm⟩
  · refine G_cond_t (b := (decide (r233 < 0))) hc237 (by kernel_rfl) ?_
    refine G_seq ?_
    refine G_region ?_
    refine W_run 1 [(4, .bool true)] w234 (by kernel_rfl) ?_
    refine W_nil ?_
    refine N_then ?_
    refine G_ret ?_
    refine N_then_ret ?_
    obtain rfl := Option.some.inj hm
    refine N_ret [.bool true] (RVs_cons (RV_tmp (by kernel_rfl)) RVs_nil) ?_
    exact ⟨rfl, M236.pick [] (by kernel_rfl)⟩
  · refine G_cond_f (b := (decide (r233 < 0))) hc237 (by kernel_rfl) ?_
    refine G_skip ?_
    refine N_then ?_
    refine G_seq ?_
    obtain ⟨r335, hr335, hm⟩ := gx_bind hm
    obtain ⟨r362, hr362, hm⟩ := gx_bind hm
    obtain ⟨r735, hr735, hm⟩ := gx_bind hm
    refine G_sub [(0, .slice p218 x216.length c219), (3, .pointer (some ⟨b223, 0, none⟩)), (19, .bool (decide (r233 < 0)))] (by kernel_rfl) ?_
    refine G_dagL 13 [[], [0], [], [2], [1, 3], [4], [5], [5], [5], [5], [6], [7], [8]] [[], [], [], [], [], [], [], [], [], [], [], [], []] [[], [], [], [], [1], [], [], [], [], [], [], [], []] [[], [], [], [], [], [], [], [], [], [], [], [], []] [[], [], [], [], [], [], [], [], [], [], [], [], []] [[], [], [], [], [], [], [], [], [], [], [], [], []] (fun _ => []) (fun i => ([fun f v s => v = (.slice p218 x216.length c219 : Value) ∧ s = [], fun f v s => ∃ (p337 : Option Addr) (c338 : Nat), v = (.slice p337 r335.length c338 : Value) ∧ ownS encRegion r335 p337 c338 s, fun f v s => v = (.agg #[.int .i64 x221.Address, .int .i64 x221.Width, .bool x221.Store] : Value) ∧ s = [], fun f v s => v = (.agg #[.int .i64 r362.Address, .int .i64 r362.Width, .bool r362.Store] : Value) ∧ s = [], fun f v s => v = (.tuple #[.int .i64 r735.1, .int .i64 r735.2.1, .int .i64 r735.2.2.1, .bool r735.2.2.2] : Value) ∧ s = [], fun f v s => v = (.tuple #[.int .i64 r735.1, .int .i64 r735.2.1, .int .i64 r735.2.2.1, .bool r735.2.2.2] : Value) ∧ s = [], fun f v s => v = (.int .i64 r735.1 : Value) ∧ s = [], fun f v s => v = (.int .i64 r735.2.1 : Value) ∧ s = [], fun f v s => v = (.int .i64 r735.2.2.1 : Value) ∧ s = [], fun f v s => v = (.bool r735.2.2.2 : Value) ∧ s = [], fun f v s => v = (.int .i64 r735.1 : Value) ∧ s = [], fun f v s => v = (.int .i64 r735.2.1 : Value) ∧ s = [], fun f v s => v = (.int .i64 r735.2.2.1 : Value) ∧ s = []] : List ((Nat → Value) → Value → Seg → Prop)).getD i (fun _ _ _ => False)) (fun j f v => ∃ s, (fun i => ([fun f v s => v = (.slice p218 x216.length c219 : Value) ∧ s = [], fun f v s => ∃ (p337 : Option Addr) (c338 : Nat), v = (.slice p337 r335.length c338 : Value) ∧ ownS encRegion r335 p337 c338 s, fun f v s => v = (.agg #[.int .i64 x221.Address, .int .i64 x221.Width, .bool x221.Store] : Value) ∧ s = [], fun f v s => v = (.agg #[.int .i64 r362.Address, .int .i64 r362.Width, .bool r362.Store] : Value) ∧ s = [], fun f v s => v = (.tuple #[.int .i64 r735.1, .int .i64 r735.2.1, .int .i64 r735.2.2.1, .bool r735.2.2.2] : Value) ∧ s = [], fun f v s => v = (.tuple #[.int .i64 r735.1, .int .i64 r735.2.1, .int .i64 r735.2.2.1, .bool r735.2.2.2] : Value) ∧ s = [], fun f v s => v = (.int .i64 r735.1 : Value) ∧ s = [], fun f v s => v = (.int .i64 r735.2.1 : Value) ∧ s = [], fun f v s => v = (.int .i64 r735.2.2.1 : Value) ∧ s = [], fun f v s => v = (.bool r735.2.2.2 : Value) ∧ s = [], fun f v s => v = (.int .i64 r735.1 : Value) ∧ s = [], fun f v s => v = (.int .i64 r735.2.1 : Value) ∧ s = [], fun f v s => v = (.int .i64 r735.2.2.1 : Value) ∧ s = []] : List ((Nat → Value) → Value → Seg → Prop)).getD i (fun _ _ _ => False)) j f v s) [] [1, 9, 10, 11, 12] [1] (fun _ _ _ s h => ⟨s, h⟩) (by kernel_rfl) (by kernel_rfl) (M236.preNil 13) (by kernel_rfl) (by kernel_rfl) (by kernel_rfl) (by kernel_rfl) (allOb_cons ?_ (allOb_cons ?_ (allOb_cons ?_ (allOb_cons ?_ (allOb_cons ?_ (allOb_cons ?_ (allOb_cons ?_ (allOb_cons ?_ (allOb_cons ?_ (allOb_cons ?_ (allOb_cons ?_ (allOb_cons ?_ (allOb_cons ?_ allOb_nil))))))))))))) ?_
    · intro g238 f239
      intro R w736 M737
      refine W_run 1 [(21, .slice p218 x216.length c219)] w736 (by kernel_rfl) ?_
      exact W_nil (ob_end (.slice p218 x216.length c219) [] rfl (by kernel_rfl) ⟨by kernel_rfl, rfl⟩ M737)
    · intro g238 f239
      intro v0_ hb0_
      obtain ⟨rfl, _⟩ := hb0_
      intro R w740 M741
      refine W_call 17 #[.slice p218 x216.length c219] (by kernel_rfl) (by kernel_rfl) ?_
      refine (c_l_toRegionS w740 x216 p218 c219 (h220.mem0 M741) hr335).mono ?_
      rintro e_ w742 ⟨p337, c338, sg339, rfl, ho340, K744⟩
      refine ⟨_, rfl, ?_⟩
      exact W_nil (ob_end (.slice p337 r335.length c338) sg339 rfl (by kernel_rfl) ⟨p337, c338, rfl, ho340⟩ (Mem.callMid M741 K744))
    · intro g238 f239
      intro R w745 M746
      refine W_val (.agg #[.int .i64 x221.Address, .int .i64 x221.Width, .bool x221.Store]) w745 (by kernel_rfl) (E_load (e := 30) (fr := (0, 0)) _ _ true 3 b223 0 [.int .i64 x221.Address, .int .i64 x221.Width, .bool x221.Store] (.agg #[.int .i64 x221.Address, .int .i64 x221.Width, .bool x221.Store]) rfl (by kernel_rfl) (by kernel_rfl) (by kernel_rfl) (M746.blk 0 (b := b223) (o := .cells ⟨[.int .i64 x221.Address, .int .i64 x221.Width, .bool x221.Store]⟩ 30 (0, 0)) (by kernel_rfl))) ?_
      exact W_nil (ob_end (.agg #[.int .i64 x221.Address, .int .i64 x221.Width, .bool x221.Store]) [] rfl (by kernel_rfl) ⟨by kernel_rfl, rfl⟩ M746)
    · intro g238 f239
      intro v2_ hb2_
      obtain ⟨rfl, _⟩ := hb2_
      intro R w749 M750
      refine W_call 18 #[.agg #[.int .i64 x221.Address, .int .i64 x221.Width, .bool x221.Store]] (by kernel_rfl) (by kernel_rfl) ?_
      refine (c_l_toAccess w749 x221 hr362).mono ?_
      rintro e_ w751 ⟨rfl, K753⟩
      refine ⟨_, rfl, ?_⟩
      exact W_nil (ob_end (.agg #[.int .i64 r362.Address, .int .i64 r362.Width, .bool r362.Store]) [] rfl (by kernel_rfl) ⟨rfl, rfl⟩ (M750.call0 K753))
    · intro g238 f239
      intro v1_ hb1_
      obtain ⟨p337, c338, rfl, ho340⟩ := hb1_
      intro v3_ hb3_
      obtain ⟨rfl, _⟩ := hb3_
      intro R w754 M755
      refine W_call 16 #[.slice p337 r335.length c338, .agg #[.int .i64 r362.Address, .int .i64 r362.Width, .bool r362.Store]] (by kernel_rfl) (by kernel_rfl) ?_
      refine (c_s_RouteAccess w754 r335 p337 c338 (ho340.rd M755 2 (by kernel_rfl)) r362 hr735).mono ?_
      rintro e_ w756 ⟨rfl, K758⟩
      refine ⟨_, rfl, ?_⟩
      exact W_nil (ob_end (.tuple #[.int .i64 r735.1, .int .i64 r735.2.1, .int .i64 r735.2.2.1, .bool r735.2.2.2]) [] rfl (by kernel_rfl) ⟨rfl, rfl⟩ (M755.call0 K758))
    · intro g238 f239
      intro v4_ hb4_
      obtain ⟨rfl, _⟩ := hb4_
      intro R w759 M760
      refine W_run 1 [(20, .tuple #[.int .i64 r735.1, .int .i64 r735.2.1, .int .i64 r735.2.2.1, .bool r735.2.2.2])] w759 (by kernel_rfl) ?_
      exact W_nil (ob_end (.tuple #[.int .i64 r735.1, .int .i64 r735.2.1, .int .i64 r735.2.2.1, .bool r735.2.2.2]) [] rfl (by kernel_rfl) ⟨by kernel_rfl, rfl⟩ M760)
    · intro g238 f239
      intro v5_ hb5_
      obtain ⟨rfl, _⟩ := hb5_
      intro R w763 M764
      refine W_run 1 [(26, .int .i64 r735.1)] w763 (by kernel_rfl) ?_
      exact W_nil (ob_end (.int .i64 r735.1) [] rfl (by kernel_rfl) ⟨by kernel_rfl, rfl⟩ M764)
    · intro g238 f239
      intro v5_ hb5_
      obtain ⟨rfl, _⟩ := hb5_
      intro R w767 M768
      refine W_run 1 [(27, .int .i64 r735.2.1)] w767 (by kernel_rfl) ?_
      exact W_nil (ob_end (.int .i64 r735.2.1) [] rfl (by kernel_rfl) ⟨by kernel_rfl, rfl⟩ M768)
    · intro g238 f239
      intro v5_ hb5_
      obtain ⟨rfl, _⟩ := hb5_
      intro R w771 M772
      refine W_run 1 [(28, .int .i64 r735.2.2.1)] w771 (by kernel_rfl) ?_
      exact W_nil (ob_end (.int .i64 r735.2.2.1) [] rfl (by kernel_rfl) ⟨by kernel_rfl, rfl⟩ M772)
    · intro g238 f239
      intro v5_ hb5_
      obtain ⟨rfl, _⟩ := hb5_
      intro R w775 M776
      refine W_run 1 [(29, .bool r735.2.2.2)] w775 (by kernel_rfl) ?_
      exact W_nil (ob_end (.bool r735.2.2.2) [] rfl (by kernel_rfl) ⟨by kernel_rfl, rfl⟩ M776)
    · intro g238 f239
      intro v6_ hb6_
      obtain ⟨rfl, _⟩ := hb6_
      intro R w779 M780
      refine W_run 1 [(6, .int .i64 r735.1)] w779 (by kernel_rfl) ?_
      exact W_nil (ob_end (.int .i64 r735.1) [] rfl (by kernel_rfl) ⟨by kernel_rfl, rfl⟩ M780)
    · intro g238 f239
      intro v7_ hb7_
      obtain ⟨rfl, _⟩ := hb7_
      intro R w783 M784
      refine W_run 1 [(7, .int .i64 r735.2.1)] w783 (by kernel_rfl) ?_
      exact W_nil (ob_end (.int .i64 r735.2.1) [] rfl (by kernel_rfl) ⟨by kernel_rfl, rfl⟩ M784)
    · intro g238 f239
      intro v8_ hb8_
      obtain ⟨rfl, _⟩ := hb8_
      intro R w787 M788
      refine W_run 1 [(8, .int .i64 r735.2.2.1)] w787 (by kernel_rfl) ?_
      exact W_nil (ob_end (.int .i64 r735.2.2.1) [] rfl (by kernel_rfl) ⟨by kernel_rfl, rfl⟩ M788)
    · intro g238 f239
      intro v1_ hb1_
      obtain ⟨p337, c338, rfl, ho340⟩ := hb1_
      intro v9_ hb9_
      obtain ⟨rfl, _⟩ := hb9_
      intro v10_ hb10_
      obtain ⟨rfl, _⟩ := hb10_
      intro v11_ hb11_
      obtain ⟨rfl, _⟩ := hb11_
      intro v12_ hb12_
      obtain ⟨rfl, _⟩ := hb12_
      intro w791 M792
      have M793 : Mem [] w w791 [[(b223, .cells ⟨[.int .i64 x221.Address, .int .i64 x221.Width, .bool x221.Store]⟩ 30 (0, 0))], (g238 1)] := M792
      refine W_run 1 [(0, .slice p218 x216.length c219), (3, .pointer (some ⟨b223, 0, none⟩)), (6, .int .i64 r735.1), (7, .int .i64 r735.2.1), (8, .int .i64 r735.2.2.1), (9, .bool r735.2.2.2)] w791 (by kernel_rfl) ?_
      refine W_nil ?_
      refine N_then ?_
      refine G_seq ?_
      refine G_region ?_
      refine W_run 1 [(0, .slice p218 x216.length c219), (3, .pointer (some ⟨b223, 0, none⟩)), (6, .int .i64 r735.1), (7, .int .i64 r735.2.1), (8, .int .i64 r735.2.2.1), (9, .bool r735.2.2.2), (30, .slice p218 x216.length c219)] w791 (by kernel_rfl) ?_
      obtain ⟨r794, hr794, hm⟩ := gx_bind hm
      refine W_call 17 #[.slice p218 x216.length c219] (by kernel_rfl) (by kernel_rfl) ?_
      refine (c_l_toRegionS w791 x216 p218 c219 (h220.mem0 M793) hr794).mono ?_
      rintro e_ w800 ⟨p796, c797, sg798, rfl, ho799, K801⟩
      have M802 := M793.call K801
      refine ⟨_, rfl, ?_⟩
      refine W_run 1 [(0, .slice p218 x216.length c219), (3, .pointer (some ⟨b223, 0, none⟩)), (6, .int .i64 r735.1), (7, .int .i64 r735.2.1), (8, .int .i64 r735.2.2.1), (9, .bool r735.2.2.2), (10, .slice p796 r794.length c797)] w800 (by kernel_rfl) ?_
      refine W_nil ?_
      refine N_then ?_
      refine G_seq ?_
      refine G_region ?_
      refine W_run 1 [(0, .slice p218 x216.length c219), (3, .pointer (some ⟨b223, 0, none⟩)), (6, .int .i64 r735.1), (7, .int .i64 r735.2.1), (8, .int .i64 r735.2.2.1), (9, .bool r735.2.2.2), (10, .slice p796 r794.length c797), (33, .slice p796 r794.length c797)] w800 (by kernel_rfl) ?_
      refine W_val (.agg #[.int .i64 x221.Address, .int .i64 x221.Width, .bool x221.Store]) w800 (by kernel_rfl) (E_load (e := 30) (fr := (0, 0)) _ _ true 3 b223 0 [.int .i64 x221.Address, .int .i64 x221.Width, .bool x221.Store] (.agg #[.int .i64 x221.Address, .int .i64 x221.Width, .bool x221.Store]) rfl (by kernel_rfl) (by kernel_rfl) (by kernel_rfl) (M802.blk 0 (b := b223) (o := .cells ⟨[.int .i64 x221.Address, .int .i64 x221.Width, .bool x221.Store]⟩ 30 (0, 0)) (by kernel_rfl))) ?_
      obtain ⟨r803, hr803, hm⟩ := gx_bind hm
      refine W_call 18 #[.agg #[.int .i64 x221.Address, .int .i64 x221.Width, .bool x221.Store]] (by kernel_rfl) (by kernel_rfl) ?_
      refine (c_l_toAccess w800 x221 hr803).mono ?_
      rintro e_ w804 ⟨rfl, K805⟩
      have M806 := M802.call0 K805
      refine ⟨_, rfl, ?_⟩
      obtain ⟨r1222, hr1222, hm⟩ := gx_bind hm
      refine W_call 19 #[.slice p796 r794.length c797, .agg #[.int .i64 r803.Address, .int .i64 r803.Width, .bool r803.Store]] (by kernel_rfl) (by kernel_rfl) ?_
      refine (c_i_RouteAccess w804 r794 p796 c797 (ho799.rd M806 2 (by kernel_rfl)) r803 hr1222).mono ?_
      rintro e_ w1223 ⟨rfl, K1224⟩
      have M1225 := M806.call0 K1224
      refine ⟨_, rfl, ?_⟩
      refine W_run 9 [(0, .slice p218 x216.length c219), (6, .int .i64 r735.1), (7, .int .i64 r735.2.1), (8, .int .i64 r735.2.2.1), (9, .bool r735.2.2.2), (10, .slice p796 r794.length c797), (11, .int .i64 r1222.1), (12, .int .i64 r1222.2.1), (13, .int .i64 r1222.2.2.1), (14, .bool r1222.2.2.2)] w1223 (by kernel_rfl) ?_
      refine W_nil ?_
      refine N_then ?_
      refine G_seq ?_
      refine G_seq ?_
      obtain ⟨o1229, ho1230, hm1231⟩ := gx_bind hm
      refine G_meet (fun a w' => Mem [] w w' [sg798] ∧ Sat Try.f4.ntmps [(0, .slice p218 x216.length c219), (10, .slice p796 r794.length c797), (58, .bool o1229)] a) ?_ ?_
      · have hm := ho1230
        refine G_region ?_
        refine W_run 4 [(0, .slice p218 x216.length c219), (7, .int .i64 r735.2.1), (8, .int .i64 r735.2.2.1), (9, .bool r735.2.2.2), (10, .slice p796 r794.length c797), (12, .int .i64 r1222.2.1), (13, .int .i64 r1222.2.2.1), (14, .bool r1222.2.2.2), (44, .bool (r1222.1 != r735.1))] w1223 (by kernel_rfl) ?_
        rcases gx_bif hm with ⟨hc1232, hm⟩ | ⟨hc1232, hm⟩
        · refine W_known 44 true (by kernel_rfl) hc1232 ?_
          refine W_run 14 [(0, .slice p218 x216.length c219), (10, .slice p796 r794.length c797), (58, .bool true)] w1223 (by kernel_rfl) ?_
          refine W_nil ?_
          obtain rfl := Option.some.inj hm
          exact N_meet fun a ha => ⟨M1225.pick [2] (by kernel_rfl), ha.sub (by kernel_rfl)⟩
        · refine W_known 44 false (by kernel_rfl) hc1232 ?_
          refine W_run 5 [(0, .slice p218 x216.length c219), (8, .int .i64 r735.2.2.1), (9, .bool r735.2.2.2), (10, .slice p796 r794.length c797), (13, .int .i64 r1222.2.2.1), (14, .bool r1222.2.2.2), (49, .bool (r1222.2.1 != r735.2.1))] w1223 (by kernel_rfl) ?_
          rcases gx_bif hm with ⟨hc1233, hm⟩ | ⟨hc1233, hm⟩
          · refine W_known 49 true (by kernel_rfl) hc1233 ?_
            refine W_run 9 [(0, .slice p218 x216.length c219), (10, .slice p796 r794.length c797), (58, .bool true)] w1223 (by kernel_rfl) ?_
            refine W_nil ?_
            obtain rfl := Option.some.inj hm
            exact N_meet fun a ha => ⟨M1225.pick [2] (by kernel_rfl), ha.sub (by kernel_rfl)⟩
          · refine W_known 49 false (by kernel_rfl) hc1233 ?_
            refine W_run 5 [(0, .slice p218 x216.length c219), (9, .bool r735.2.2.2), (10, .slice p796 r794.length c797), (14, .bool r1222.2.2.2), (54, .bool (r1222.2.2.1 != r735.2.2.1))] w1223 (by kernel_rfl) ?_
            rcases gx_bif hm with ⟨hc1234, hm⟩ | ⟨hc1234, hm⟩
            · refine W_known 54 true (by kernel_rfl) hc1234 ?_
              refine W_run 4 [(0, .slice p218 x216.length c219), (10, .slice p796 r794.length c797), (58, .bool true)] w1223 (by kernel_rfl) ?_
              refine W_nil ?_
              obtain rfl := Option.some.inj hm
              exact N_meet fun a ha => ⟨M1225.pick [2] (by kernel_rfl), ha.sub (by kernel_rfl)⟩
            · refine W_known 54 false (by kernel_rfl) hc1234 ?_
              refine W_run 4 [(0, .slice p218 x216.length c219), (10, .slice p796 r794.length c797), (58, .bool (!(r1222.2.2.2 == r735.2.2.2)))] w1223 (by kernel_rfl) ?_
              refine W_nil ?_
              obtain rfl := Option.some.inj hm
              exact N_meet fun a ha => ⟨M1225.pick [2] (by kernel_rfl), ha.sub (by kernel_rfl)⟩
      · intro a1237 w1235 ⟨M1236, hS1238⟩
        refine N_use hS1238 ?_
        have hm := hm1231
        refine N_then ?_
        rcases gx_bif hm with ⟨hc1239, hm⟩ | ⟨hc1239, hm⟩
        · refine G_cond_t (b := o1229) hc1239 (by kernel_rfl) ?_
          refine G_seq ?_
          refine G_region ?_
          refine W_run 1 [(4, .bool false)] w1235 (by kernel_rfl) ?_
          refine W_nil ?_
          refine N_then ?_
          refine G_ret ?_
          refine N_then_ret ?_
          obtain rfl := Option.some.inj hm
          refine N_ret [.bool false] (RVs_cons (RV_tmp (by kernel_rfl)) RVs_nil) ?_
          exact ⟨rfl, M1236.pick [] (by kernel_rfl)⟩
        · refine G_cond_f (b := o1229) hc1239 (by kernel_rfl) ?_
          refine G_skip ?_
          refine N_then ?_
          refine G_seq ?_
          refine G_seq ?_
          refine G_region ?_
          refine W_run 2 [(59, .slice p796 r794.length c797), (60, .slice p218 x216.length c219)] w1235 (by kernel_rfl) ?_
          obtain ⟨r1240, hr1240, hm⟩ := gx_bind hm
          refine W_call 17 #[.slice p218 x216.length c219] (by kernel_rfl) (by kernel_rfl) ?_
          refine (c_l_toRegionS w1235 x216 p218 c219 (h220.mem0 M1236) hr1240).mono ?_
          rintro e_ w1246 ⟨p1242, c1243, sg1244, rfl, ho1245, K1247⟩
          have M1248 := M1236.call K1247
          refine ⟨_, rfl, ?_⟩
          obtain ⟨r1319, hr1319, hm⟩ := gx_bind hm
          refine W_call 20 #[.slice p796 r794.length c797, .slice p1242 r1240.length c1243] (by kernel_rfl) (by kernel_rfl) ?_
          refine (c_l_eqRegionS w1246 r794 p796 c797 (ho799.rd M1248 0 (by kernel_rfl)) r1240 p1242 c1243 (ho1245.rd M1248 1 (by kernel_rfl)) hr1319).mono ?_
          rintro e_ w1320 ⟨rfl, K1321⟩
          have M1322 := M1248.call0 K1321
          refine ⟨_, rfl, ?_⟩
          refine W_run 1 [(63, .bool (!r1319))] w1320 (by kernel_rfl) ?_
          refine W_nil ?_
          refine N_then ?_
          rcases gx_bif hm with ⟨hc1323, hm⟩ | ⟨hc1323, hm⟩
          · refine G_cond_t (b := (!r1319)) hc1323 (by kernel_rfl) ?_
            refine G_seq ?_
            refine G_region ?_
            refine W_run 1 [(4, .bool false)] w1320 (by kernel_rfl) ?_
            refine W_nil ?_
            refine N_then ?_
            refine G_ret ?_
            refine N_then_ret ?_
            obtain rfl := Option.some.inj hm
            refine N_ret [.bool false] (RVs_cons (RV_tmp (by kernel_rfl)) RVs_nil) ?_
            exact ⟨rfl, M1322.pick [] (by kernel_rfl)⟩
          · refine G_cond_f (b := (!r1319)) hc1323 (by kernel_rfl) ?_
            refine G_skip ?_
            refine N_then ?_
            refine G_seq ?_
            refine G_region ?_
            refine W_run 1 [(4, .bool true)] w1320 (by kernel_rfl) ?_
            refine W_nil ?_
            refine N_then ?_
            refine G_ret ?_
            obtain rfl := Option.some.inj hm
            refine N_ret [.bool true] (RVs_cons (RV_tmp (by kernel_rfl)) RVs_nil) ?_
            exact ⟨rfl, M1322.pick [] (by kernel_rfl)⟩
end Go.Proofs.Ytphinfkojhecdaa
