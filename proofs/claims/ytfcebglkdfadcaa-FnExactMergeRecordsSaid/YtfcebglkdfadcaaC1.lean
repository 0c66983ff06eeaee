/- The walks, printed by program: whenever the model gives r, the call returns r. Part 1. -/
import Derived.Test.YtfcebglkdfadcaaM
import Derived.Test.YtfcebglkdfadcaaProg
import Derived.Test.YtfcebglkdfadcaaSh
set_option linter.unusedVariables false
set_option maxRecDepth 100000
set_option maxHeartbeats 4000000
namespace Go.Proofs.Ytfcebglkdfadcaa
open Go.Gx
theorem c_l_szEvent (w : World) (x6 : Event) (x7 : Int) {r : Int} (hm : M.l_szEvent x6 x7 = some r) :
    Calls Try.prog 13 #[.agg #[.int .i64 x6.Tick, .int .i64 x6.Guest, .string x6.Kind, .int .i64 x6.Value], .int .i64 x7] w fun e w' => e = .returned (.int .i64 r) ∧ Mem [] w w' [] := by
  unfold M.l_szEvent at hm
  refine C_enter Try.func13 rfl (by kernel_rfl) ?_
  have M0 := Mem.refl [] w
  refine G_seq ?_
  refine G_region ?_
  refine W_new (fun b => .pointer (some ⟨b, 0, none⟩)) (.cells ⟨[.int .i64 x6.Tick, .int .i64 x6.Guest, .string x6.Kind, .int .i64 x6.Value]⟩ 23 (0, 0)) M0 rfl (by kernel_rfl) (by kernel_rfl) ?_
  intro b9 w10 M11
  refine W_run 1 [(1, .int .i64 x7), (2, .pointer (some ⟨b9, 0, none⟩))] w10 (by kernel_rfl) ?_
  refine W_nil ?_
  refine N_then ?_
  refine G_seq ?_
  refine G_region ?_
  refine W_run 2 [(1, .int .i64 x7), (5, .int .i64 x7), (6, .pointer (some ⟨b9, 2, none⟩))] w10 (by kernel_rfl) ?_
  refine W_val (.string x6.Kind) w10 (by kernel_rfl) (E_load (e := 23) (fr := (0, 0)) _ _ false 1 b9 2 [.int .i64 x6.Tick, .int .i64 x6.Guest, .string x6.Kind, .int .i64 x6.Value] (.string x6.Kind) rfl (by kernel_rfl) (by kernel_rfl) (by kernel_rfl) (M11.blk 0 (b := b9) (o := .cells ⟨[.int .i64 x6.Tick, .int .i64 x6.Guest, .string x6.Kind, .int .i64 x6.Value]⟩ 23 (0, 0)) (by kernel_rfl))) ?_
  refine W_run 3 [(1, .int .i64 (w64 (x7 - (x6.Kind.size : Int))))] w10 (by kernel_rfl) ?_
  refine W_nil ?_
  refine N_then ?_
  refine G_seq ?_
  refine G_seq ?_
  refine G_region ?_
  refine W_run 2 [(1, .int .i64 (w64 (x7 - (x6.Kind.size : Int)))), (11, .bool (decide ((w64 (x7 - (x6.Kind.size : Int))) < 0)))] w10 (by kernel_rfl) ?_
  refine W_nil ?_
  refine N_then ?_
  rcases gx_bif hm with ⟨hc12, hm⟩ | ⟨hc12, hm⟩
  · refine G_cond_t (b := (decide ((w64 (x7 - (x6.Kind.size : Int))) < 0))) hc12 (by kernel_rfl) ?_
    refine G_seq ?_
    refine G_region ?_
    refine W_run 1 [(4, .int .i64 (-1))] w10 (by kernel_rfl) ?_
    refine W_nil ?_
    refine N_then ?_
    refine G_ret ?_
    refine N_then_ret ?_
    obtain rfl := Option.some.inj hm
    refine N_ret [.int .i64 (-1)] (RVs_cons (RV_tmp (by kernel_rfl)) RVs_nil) ?_
    exact ⟨rfl, M11.pick [] (by kernel_rfl)⟩
  refine G_cond_f (b := (decide ((w64 (x7 - (x6.Kind.size : Int))) < 0))) hc12 (by kernel_rfl) ?_
  refine G_skip ?_
  refine N_then ?_
  refine G_seq ?_
  refine G_region ?_
  refine W_run 2 [(4, .int .i64 (w64 (x7 - (x6.Kind.size : Int))))] w10 (by kernel_rfl) ?_
  refine W_nil ?_
  refine N_then ?_
  refine G_ret ?_
  obtain rfl := Option.some.inj hm
  refine N_ret [.int .i64 (w64 (x7 - (x6.Kind.size : Int)))] (RVs_cons (RV_tmp (by kernel_rfl)) RVs_nil) ?_
  exact ⟨rfl, M11.pick [] (by kernel_rfl)⟩
theorem c_l_toEvent (w : World) (x18 : Event) {r : Event} (hm : M.l_toEvent x18 = some r) :
    Calls Try.prog 15 #[.agg #[.int .i64 x18.Tick, .int .i64 x18.Guest, .string x18.Kind, .int .i64 x18.Value]] w fun e w' => e = .returned (.agg #[.int .i64 r.Tick, .int .i64 r.Guest, .string r.Kind, .int .i64 r.Value]) ∧ Mem [] w w' [] := by
  unfold M.l_toEvent at hm
  refine C_enter Try.func15 rfl (by kernel_rfl) ?_
  have M0 := Mem.refl [] w
  refine G_seq ?_
  refine G_region ?_
  refine W_new (fun b => .pointer (some ⟨b, 0, none⟩)) (.cells ⟨[.int .i64 x18.Tick, .int .i64 x18.Guest, .string x18.Kind, .int .i64 x18.Value]⟩ 23 (0, 0)) M0 rfl (by kernel_rfl) (by kernel_rfl) ?_
  intro b20 w21 M22
  refine W_new (fun b => .pointer (some ⟨b, 0, none⟩)) (.cells ⟨[.int .i64 0, .int .i64 0, .string ByteArray.empty, .int .i64 0]⟩ 26 (0, 0)) M22 rfl (by kernel_rfl) (by kernel_rfl) ?_
  intro b24 w25 M26
  refine W_nil ?_
  refine N_then ?_
  refine G_seq ?_
  refine G_region ?_
  refine W_new (fun b => .pointer (some ⟨b, 0, none⟩)) (.cells ⟨[.int .i64 0, .int .i64 0, .string ByteArray.empty, .int .i64 0]⟩ 26 (0, 0)) M26 rfl (by kernel_rfl) (by kernel_rfl) ?_
  intro b28 w29 M30
  refine W_nil ?_
  refine N_then ?_
  refine G_seq ?_
  refine G_region ?_
  refine W_run 1 [(1, .pointer (some ⟨b20, 0, none⟩)), (2, .pointer (some ⟨b24, 0, none⟩)), (3, .pointer (some ⟨b28, 0, none⟩)), (4, .pointer (some ⟨b20, 0, none⟩))] w29 (by kernel_rfl) ?_
  refine W_val (.int .i64 x18.Tick) w29 (by kernel_rfl) (E_load (e := 23) (fr := (0, 0)) _ _ false 1 b20 0 [.int .i64 x18.Tick, .int .i64 x18.Guest, .string x18.Kind, .int .i64 x18.Value] (.int .i64 x18.Tick) rfl (by kernel_rfl) (by kernel_rfl) (by kernel_rfl) (M30.blk 0 (b := b20) (o := .cells ⟨[.int .i64 x18.Tick, .int .i64 x18.Guest, .string x18.Kind, .int .i64 x18.Value]⟩ 23 (0, 0)) (by kernel_rfl))) ?_
  refine W_run 1 [(1, .pointer (some ⟨b20, 0, none⟩)), (2, .pointer (some ⟨b24, 0, none⟩)), (3, .pointer (some ⟨b28, 0, none⟩)), (5, .int .i64 x18.Tick), (6, .pointer (some ⟨b28, 0, none⟩))] w29 (by kernel_rfl) ?_
  refine W_store _ _ _ false 1 b28 0 [.int .i64 0, .int .i64 0, .string ByteArray.empty, .int .i64 0] 26 (.int .i64 x18.Tick) 2 [.int .i64 x18.Tick, .int .i64 0, .string ByteArray.empty, .int .i64 0] M30 (by kernel_rfl) rfl (by kernel_rfl) (by kernel_rfl) (by kernel_rfl) (by kernel_rfl) (by kernel_rfl) (by kernel_rfl) (by kernel_rfl) (by kernel_rfl) ?_
  intro w31 M32
  refine W_nil ?_
  refine N_then ?_
  refine G_seq ?_
  refine G_region ?_
  refine W_run 1 [(1, .pointer (some ⟨b20, 0, none⟩)), (2, .pointer (some ⟨b24, 0, none⟩)), (3, .pointer (some ⟨b28, 0, none⟩)), (7, .pointer (some ⟨b20, 1, none⟩))] w31 (by kernel_rfl) ?_
  refine W_val (.int .i64 x18.Guest) w31 (by kernel_rfl) (E_load (e := 23) (fr := (0, 0)) _ _ false 1 b20 1 [.int .i64 x18.Tick, .int .i64 x18.Guest, .string x18.Kind, .int .i64 x18.Value] (.int .i64 x18.Guest) rfl (by kernel_rfl) (by kernel_rfl) (by kernel_rfl) (M32.blk 0 (b := b20) (o := .cells ⟨[.int .i64 x18.Tick, .int .i64 x18.Guest, .string x18.Kind, .int .i64 x18.Value]⟩ 23 (0, 0)) (by kernel_rfl))) ?_
  refine W_run 1 [(1, .pointer (some ⟨b20, 0, none⟩)), (2, .pointer (some ⟨b24, 0, none⟩)), (3, .pointer (some ⟨b28, 0, none⟩)), (8, .int .i64 x18.Guest), (9, .pointer (some ⟨b28, 1, none⟩))] w31 (by kernel_rfl) ?_
  refine W_store _ _ _ false 1 b28 1 [.int .i64 x18.Tick, .int .i64 0, .string ByteArray.empty, .int .i64 0] 26 (.int .i64 x18.Guest) 2 [.int .i64 x18.Tick, .int .i64 x18.Guest, .string ByteArray.empty, .int .i64 0] M32 (by kernel_rfl) rfl (by kernel_rfl) (by kernel_rfl) (by kernel_rfl) (by kernel_rfl) (by kernel_rfl) (by kernel_rfl) (by kernel_rfl) (by kernel_rfl) ?_
  intro w33 M34
  refine W_nil ?_
  refine N_then ?_
  refine G_seq ?_
  refine G_region ?_
  refine W_run 1 [(1, .pointer (some ⟨b20, 0, none⟩)), (2, .pointer (some ⟨b24, 0, none⟩)), (3, .pointer (some ⟨b28, 0, none⟩)), (10, .pointer (some ⟨b20, 2, none⟩))] w33 (by kernel_rfl) ?_
  refine W_val (.string x18.Kind) w33 (by kernel_rfl) (E_load (e := 23) (fr := (0, 0)) _ _ false 1 b20 2 [.int .i64 x18.Tick, .int .i64 x18.Guest, .string x18.Kind, .int .i64 x18.Value] (.string x18.Kind) rfl (by kernel_rfl) (by kernel_rfl) (by kernel_rfl) (M34.blk 0 (b := b20) (o := .cells ⟨[.int .i64 x18.Tick, .int .i64 x18.Guest, .string x18.Kind, .int .i64 x18.Value]⟩ 23 (0, 0)) (by kernel_rfl))) ?_
  refine W_run 1 [(1, .pointer (some ⟨b20, 0, none⟩)), (2, .pointer (some ⟨b24, 0, none⟩)), (3, .pointer (some ⟨b28, 0, none⟩)), (11, .string x18.Kind), (12, .pointer (some ⟨b28, 2, none⟩))] w33 (by kernel_rfl) ?_
  refine W_store _ _ _ false 1 b28 2 [.int .i64 x18.Tick, .int .i64 x18.Guest, .string ByteArray.empty, .int .i64 0] 26 (.string x18.Kind) 2 [.int .i64 x18.Tick, .int .i64 x18.Guest, .string x18.Kind, .int .i64 0] M34 (by kernel_rfl) rfl (by kernel_rfl) (by kernel_rfl) (by kernel_rfl) (by kernel_rfl) (by kernel_rfl) (by kernel_rfl) (by kernel_rfl) (by kernel_rfl) ?_
  intro w35 M36
  refine W_nil ?_
  refine N_then ?_
  refine G_seq ?_
  refine G_region ?_
  refine W_run 1 [(2, .pointer (some ⟨b24, 0, none⟩)), (3, .pointer (some ⟨b28, 0, none⟩)), (13, .pointer (some ⟨b20, 3, none⟩))] w35 (by kernel_rfl) ?_
  refine W_val (.int .i64 x18.Value) w35 (by kernel_rfl) (E_load (e := 23) (fr := (0, 0)) _ _ false 1 b20 3 [.int .i64 x18.Tick, .int .i64 x18.Guest, .string x18.Kind, .int .i64 x18.Value] (.int .i64 x18.Value) rfl (by kernel_rfl) (by kernel_rfl) (by kernel_rfl) (M36.blk 0 (b := b20) (o := .cells ⟨[.int .i64 x18.Tick, .int .i64 x18.Guest, .string x18.Kind, .int .i64 x18.Value]⟩ 23 (0, 0)) (by kernel_rfl))) ?_
  refine W_run 1 [(2, .pointer (some ⟨b24, 0, none⟩)), (3, .pointer (some ⟨b28, 0, none⟩)), (14, .int .i64 x18.Value), (15, .pointer (some ⟨b28, 3, none⟩))] w35 (by kernel_rfl) ?_
  refine W_store _ _ _ false 1 b28 3 [.int .i64 x18.Tick, .int .i64 x18.Guest, .string x18.Kind, .int .i64 0] 26 (.int .i64 x18.Value) 2 [.int .i64 x18.Tick, .int .i64 x18.Guest, .string x18.Kind, .int .i64 x18.Value] M36 (by kernel_rfl) rfl (by kernel_rfl) (by kernel_rfl) (by kernel_rfl) (by kernel_rfl) (by kernel_rfl) (by kernel_rfl) (by kernel_rfl) (by kernel_rfl) ?_
  intro w37 M38
  refine W_nil ?_
  refine N_then ?_
  refine G_seq ?_
  refine G_region ?_
  refine W_val (.agg #[.int .i64 x18.Tick, .int .i64 x18.Guest, .string x18.Kind, .int .i64 x18.Value]) w37 (by kernel_rfl) (E_load (e := 26) (fr := (0, 0)) _ _ true 4 b28 0 [.int .i64 x18.Tick, .int .i64 x18.Guest, .string x18.Kind, .int .i64 x18.Value] (.agg #[.int .i64 x18.Tick, .int .i64 x18.Guest, .string x18.Kind, .int .i64 x18.Value]) rfl (by kernel_rfl) (by kernel_rfl) (by kernel_rfl) (M38.blk 2 (b := b28) (o := .cells ⟨[.int .i64 x18.Tick, .int .i64 x18.Guest, .string x18.Kind, .int .i64 x18.Value]⟩ 26 (0, 0)) (by kernel_rfl))) ?_
  refine W_store _ _ _ true 4 b24 0 [.int .i64 0, .int .i64 0, .string ByteArray.empty, .int .i64 0] 26 (.agg #[.int .i64 x18.Tick, .int .i64 x18.Guest, .string x18.Kind, .int .i64 x18.Value]) 1 [.int .i64 x18.Tick, .int .i64 x18.Guest, .string x18.Kind, .int .i64 x18.Value] M38 (by kernel_rfl) rfl (by kernel_rfl) (by kernel_rfl) (by kernel_rfl) (by kernel_rfl) (by kernel_rfl) (by kernel_rfl) (by kernel_rfl) (by kernel_rfl) ?_
  intro w39 M40
  refine W_nil ?_
  refine N_then ?_
  refine G_ret ?_
  obtain rfl := Option.some.inj hm
  refine N_ret [.agg #[.int .i64 x18.Tick, .int .i64 x18.Guest, .string x18.Kind, .int .i64 x18.Value]] (RVs_cons (RV_cell (g := true) (k := 4) (b := b24) (off := 0) (cs := [.int .i64 x18.Tick, .int .i64 x18.Guest, .string x18.Kind, .int .i64 x18.Value]) (e := 26) (fr := (0, 0)) (v := .agg #[.int .i64 x18.Tick, .int .i64 x18.Guest, .string x18.Kind, .int .i64 x18.Value]) (M40.blk 1 (b := b24) (o := .cells ⟨[.int .i64 x18.Tick, .int .i64 x18.Guest, .string x18.Kind, .int .i64 x18.Value]⟩ 26 (0, 0)) (by kernel_rfl)) (by kernel_rfl) (by kernel_rfl) (by kernel_rfl)) RVs_nil) ?_
  exact ⟨rfl, M40.pick [] (by kernel_rfl)⟩
theorem c_s_l1In (w : World) (x56 : Int) (x57 : Int) (x58 : Int) {r : Bool} (hm : M.s_l1In x56 x57 x58 = some r) :
    Calls Try.prog 58 #[.int .i64 x56, .int .i64 x57, .int .i64 x58] w fun e w' => e = .returned (.bool r) ∧ Mem [] w w' [] := by
  unfold M.s_l1In at hm
  refine C_enter Try.func58 rfl (by kernel_rfl) ?_
  have M0 := Mem.refl [] w
  refine G_seq ?_
  refine G_region ?_
  refine W_run 1 [(0, .int .i64 x56), (1, .int .i64 x57), (2, .int .i64 x58)] w (by kernel_rfl) ?_
  refine W_nil ?_
  refine N_then ?_
  refine G_seq ?_
  obtain ⟨o60, ho61, hm62⟩ := gx_bind hm
  refine G_meet (fun a w' => Mem [] w w' [] ∧ Sat Try.f58.ntmps [(6, .bool o60)] a) ?_ ?_
  · have hm := ho61
    refine G_region ?_
    refine W_run 4 [(0, .int .i64 x56), (2, .int .i64 x58), (10, .bool (decide (x56 ≥ x57)))] w (by kernel_rfl) ?_
    rcases gx_bif hm with ⟨hc63, hm⟩ | ⟨hc63, hm⟩
    · refine W_known 10 true (by kernel_rfl) hc63 ?_
      refine W_run 5 [(6, .bool (decide (x56 ≤ x58)))] w (by kernel_rfl) ?_
      refine W_nil ?_
      obtain rfl := Option.some.inj hm
      exact N_meet fun a ha => ⟨M0.pick [] (by kernel_rfl), ha.sub (by kernel_rfl)⟩
    refine W_known 10 false (by kernel_rfl) hc63 ?_
    refine W_run 5 [(6, .bool false)] w (by kernel_rfl) ?_
    refine W_nil ?_
    obtain rfl := Option.some.inj hm
    exact N_meet fun a ha => ⟨M0.pick [] (by kernel_rfl), ha.sub (by kernel_rfl)⟩
  intro a66 w64 ⟨M65, hS67⟩
  refine N_use hS67 ?_
  have hm := hm62
  refine N_then ?_
  refine G_ret ?_
  obtain rfl := Option.some.inj hm
  refine N_ret [.bool o60] (RVs_cons (RV_tmp (by kernel_rfl)) RVs_nil) ?_
  exact ⟨rfl, M65.pick [] (by kernel_rfl)⟩
theorem c_s_l11Tick (w : World) (x55 : Int) {r : Bool} (hm : M.s_l11Tick x55 = some r) :
    Calls Try.prog 65 #[.int .i64 x55] w fun e w' => e = .returned (.bool r) ∧ Mem [] w w' [] := by
  unfold M.s_l11Tick at hm
  refine C_enter Try.func65 rfl (by kernel_rfl) ?_
  have M0 := Mem.refl [] w
  refine G_seq ?_
  refine G_region ?_
  refine W_run 1 [(0, .int .i64 x55)] w (by kernel_rfl) ?_
  refine W_nil ?_
  refine N_then ?_
  refine G_seq ?_
  refine G_region ?_
  refine W_run 1 [(3, .int .i64 x55)] w (by kernel_rfl) ?_
  obtain ⟨r68, hr68, hm⟩ := gx_bind hm
  refine W_call 58 #[.int .i64 x55, .int .i64 0, .int .i64 100000] (by kernel_rfl) (by kernel_rfl) ?_
  refine (c_s_l1In w x55 0 100000 hr68).mono ?_
  rintro e_ w69 ⟨rfl, K70⟩
  have M71 := M0.call0 K70
  refine ⟨_, rfl, ?_⟩
  refine W_run 1 [(2, .bool r68)] w69 (by kernel_rfl) ?_
  refine W_nil ?_
  refine N_then ?_
  refine G_ret ?_
  obtain rfl := Option.some.inj hm
  refine N_ret [.bool r68] (RVs_cons (RV_tmp (by kernel_rfl)) RVs_nil) ?_
  exact ⟨rfl, M71.pick [] (by kernel_rfl)⟩
theorem c_s_l22Guest (w : World) (x77 : Int) {r : Bool} (hm : M.s_l22Guest x77 = some r) :
    Calls Try.prog 61 #[.int .i64 x77] w fun e w' => e = .returned (.bool r) ∧ Mem [] w w' [] := by
  unfold M.s_l22Guest at hm
  refine C_enter Try.func61 rfl (by kernel_rfl) ?_
  have M0 := Mem.refl [] w
  refine G_seq ?_
  refine G_region ?_
  refine W_run 1 [(0, .int .i64 x77)] w (by kernel_rfl) ?_
  refine W_nil ?_
  refine N_then ?_
  refine G_seq ?_
  refine G_region ?_
  refine W_run 1 [(3, .int .i64 x77)] w (by kernel_rfl) ?_
  obtain ⟨r78, hr78, hm⟩ := gx_bind hm
  refine W_call 58 #[.int .i64 x77, .int .i64 0, .int .i64 4] (by kernel_rfl) (by kernel_rfl) ?_
  refine (c_s_l1In w x77 0 4 hr78).mono ?_
  rintro e_ w79 ⟨rfl, K80⟩
  have M81 := M0.call0 K80
  refine ⟨_, rfl, ?_⟩
  refine W_run 1 [(2, .bool r78)] w79 (by kernel_rfl) ?_
  refine W_nil ?_
  refine N_then ?_
  refine G_ret ?_
  obtain rfl := Option.some.inj hm
  refine N_ret [.bool r78] (RVs_cons (RV_tmp (by kernel_rfl)) RVs_nil) ?_
  exact ⟨rfl, M81.pick [] (by kernel_rfl)⟩
theorem c_s_l22Kind (w : World) (x87 : ByteArray) {r : Bool} (hm : M.s_l22Kind x87 = some r) :
    Calls Try.prog 79 #[.string x87] w fun e w' => e = .returned (.bool r) ∧ Mem [] w w' [] := by
  unfold M.s_l22Kind at hm
  refine C_enter Try.func79 rfl (by kernel_rfl) ?_
  have M0 := Mem.refl [] w
  refine G_seq ?_
  refine G_region ?_
  refine W_run 1 [(0, .string x87)] w (by kernel_rfl) ?_
  refine W_nil ?_
  refine N_then ?_
  refine G_seq ?_
  refine G_seq ?_
  refine G_region ?_
  refine W_run 1 [(0, .string x87), (3, .int .i64 0)] w (by kernel_rfl) ?_
  refine W_nil ?_
  refine N_then ?_
  obtain ⟨out125, hw126, hmo127⟩ := gx_bind hm
  refine G_meet (fun a w' => ∃ (o128 : Unit), out125 = .inl o128 ∧ Mem [] w w' [] ∧ Sat Try.f79.ntmps [(0, .string x87)] a) ?_ ?_
  · refine G_block ?_
    refine G_while (σ := Int) (ρ := (Unit) ⊕ (Bool)) (fun s118 a w' => Mem [] w w' [] ∧ Sat Try.f79.ntmps [(0, .string x87), (3, .int .i64 s118)] a) hw126 (fun a ha => ⟨M0.pick [] (by kernel_rfl), ha.sub (by kernel_rfl)⟩) ?_
    clear hm
    intro s118 x119 hm hout120 a121 w122 ⟨M123, hS124⟩
    refine G_use hS124 ?_
    refine G_seq ?_
    refine G_seq ?_
    refine G_region ?_
    refine W_run 4 [(0, .string x87), (3, .int .i64 s118), (7, .bool (decide (s118 < (x87.size : Int))))] w122 (by kernel_rfl) ?_
    refine W_nil ?_
    refine N_then ?_
    rcases gx_bif hm with ⟨hc129, hm⟩ | ⟨hc129, hm⟩
    · refine G_cond_t (b := (decide (s118 < (x87.size : Int)))) hc129 (by kernel_rfl) ?_
      refine G_skip ?_
      refine N_then ?_
      refine G_seq ?_
      refine G_block ?_
      refine G_seq ?_
      obtain ⟨o133, ho134, hm135⟩ := gx_bind hm
      refine G_meet (fun a w' => Mem [] w w' [] ∧ Sat Try.f79.ntmps [(0, .string x87), (3, .int .i64 s118), (19, .bool o133)] a) ?_ ?_
      · have hm := ho134
        refine G_region ?_
        refine W_run 2 [(0, .string x87), (3, .int .i64 s118), (10, .string x87), (11, .int .i64 s118)] w122 (by kernel_rfl) ?_
        obtain ⟨q136, hq136, hm⟩ := gx_bind hm
        refine W_val (.int .u8 q136) w122 (by kernel_rfl) (E_strIdx _ _ _ x87 .i64 s118 q136 rfl (by kernel_rfl) (by kernel_rfl) (by kernel_rfl) hq136) ?_
        refine W_run 2 [(0, .string x87), (3, .int .i64 s118), (14, .bool (decide (q136 < 97)))] w122 (by kernel_rfl) ?_
        rcases gx_bif hm with ⟨hc137, hm⟩ | ⟨hc137, hm⟩
        · refine W_known 14 true (by kernel_rfl) hc137 ?_
          refine W_run 5 [(0, .string x87), (3, .int .i64 s118), (19, .bool true)] w122 (by kernel_rfl) ?_
          refine W_nil ?_
          obtain rfl := Option.some.inj hm
          exact N_meet fun a ha => ⟨M123.pick [] (by kernel_rfl), ha.sub (by kernel_rfl)⟩
        refine W_known 14 false (by kernel_rfl) hc137 ?_
        refine W_run 2 [(0, .string x87), (3, .int .i64 s118), (14, .bool false), (15, .string x87), (16, .int .i64 s118)] w122 (by kernel_rfl) ?_
        obtain ⟨q138, hq138, hm⟩ := gx_bind hm
        refine W_val (.int .u8 q138) w122 (by kernel_rfl) (E_strIdx _ _ _ x87 .i64 s118 q138 rfl (by kernel_rfl) (by kernel_rfl) (by kernel_rfl) hq138) ?_
        refine W_run 2 [(0, .string x87), (3, .int .i64 s118), (19, .bool (decide (q138 > 122)))] w122 (by kernel_rfl) ?_
        refine W_nil ?_
        obtain rfl := Option.some.inj hm
        exact N_meet fun a ha => ⟨M123.pick [] (by kernel_rfl), ha.sub (by kernel_rfl)⟩
      intro a141 w139 ⟨M140, hS142⟩
      refine N_use hS142 ?_
      have hm := hm135
      refine N_then ?_
      rcases gx_bif hm with ⟨hc143, hm⟩ | ⟨hc143, hm⟩
      · refine G_cond_t (b := o133) hc143 (by kernel_rfl) ?_
        refine G_seq ?_
        refine G_region ?_
        refine W_run 1 [(2, .bool false)] w139 (by kernel_rfl) ?_
        refine W_nil ?_
        refine N_then ?_
        refine G_ret ?_
        refine N_block_ret ?_
        refine N_then_ret ?_
        refine N_then_ret ?_
        obtain rfl := Option.some.inj hm
        obtain rfl := hout120 _ rfl
        have hm := hmo127; simp only [Sum.elim_inr] at hm
        refine N_block_ret ?_
        refine N_meet_ret ?_
        refine N_then_ret ?_
        obtain rfl := Option.some.inj hm
        refine N_ret [.bool false] (RVs_cons (RV_tmp (by kernel_rfl)) RVs_nil) ?_
        exact ⟨rfl, M140.pick [] (by kernel_rfl)⟩
      refine G_cond_f (b := o133) hc143 (by kernel_rfl) ?_
      refine G_skip ?_
      refine N_block ?_
      refine N_then ?_
      refine G_region ?_
      refine W_run 3 [(0, .string x87), (3, .int .i64 (w64 (s118 + 1)))] w139 (by kernel_rfl) ?_
      refine W_nil ?_
      obtain rfl := Option.some.inj hm
      exact N_loop fun a ha => ⟨_, rfl, M140.pick [] (by kernel_rfl), ha.sub (by kernel_rfl)⟩
    refine G_cond_f (b := (decide (s118 < (x87.size : Int)))) hc129 (by kernel_rfl) ?_
    refine G_exit ?_
    refine N_then_exit ?_
    refine N_then_exit ?_
    refine N_block_eq ?_
    obtain rfl := Option.some.inj hm
    obtain rfl := hout120 _ rfl
    exact N_meet fun a ha => ⟨_, rfl, M123.pick [] (by kernel_rfl), ha.sub (by kernel_rfl)⟩
  intro a144 w145 ⟨o128, hout_, M146, hS147⟩
  refine N_use hS147 ?_
  subst hout_
  have hm := hmo127; simp only [Sum.elim_inl] at hm
  refine N_then ?_
  refine G_seq ?_
  refine G_region ?_
  refine W_run 2 [(21, .int .i64 (x87.size : Int))] w145 (by kernel_rfl) ?_
  obtain ⟨r148, hr148, hm⟩ := gx_bind hm
  refine W_call 58 #[.int .i64 (x87.size : Int), .int .i64 1, .int .i64 8] (by kernel_rfl) (by kernel_rfl) ?_
  refine (c_s_l1In w145 (x87.size : Int) 1 8 hr148).mono ?_
  rintro e_ w149 ⟨rfl, K150⟩
  have M151 := M146.call0 K150
  refine ⟨_, rfl, ?_⟩
  refine W_run 1 [(2, .bool r148)] w149 (by kernel_rfl) ?_
  refine W_nil ?_
  refine N_then ?_
  refine G_ret ?_
  obtain rfl := Option.some.inj hm
  refine N_ret [.bool r148] (RVs_cons (RV_tmp (by kernel_rfl)) RVs_nil) ?_
  exact ⟨rfl, M151.pick [] (by kernel_rfl)⟩
theorem c_s_l22One (w : World) (x50 : Event) {r : Bool} (hm : M.s_l22One x50 = some r) :
    Calls Try.prog 51 #[.agg #[.int .i64 x50.Tick, .int .i64 x50.Guest, .string x50.Kind, .int .i64 x50.Value]] w fun e w' => e = .returned (.bool r) ∧ Mem [] w w' [] := by
  unfold M.s_l22One at hm
  refine C_enter Try.func51 rfl (by kernel_rfl) ?_
  have M0 := Mem.refl [] w
  refine G_seq ?_
  refine G_region ?_
  refine W_new (fun b => .pointer (some ⟨b, 0, none⟩)) (.cells ⟨[.int .i64 x50.Tick, .int .i64 x50.Guest, .string x50.Kind, .int .i64 x50.Value]⟩ 26 (0, 0)) M0 rfl (by kernel_rfl) (by kernel_rfl) ?_
  intro b52 w53 M54
  refine W_run 1 [(1, .pointer (some ⟨b52, 0, none⟩))] w53 (by kernel_rfl) ?_
  refine W_nil ?_
  refine N_then ?_
  refine G_seq ?_
  obtain ⟨o161, ho162, hm163⟩ := gx_bind hm
  refine G_meet (fun a w' => Mem [] w w' [] ∧ Sat Try.f51.ntmps [(2, .bool o161)] a) ?_ ?_
  · have hm := ho162
    refine G_region ?_
    refine W_run 1 [(1, .pointer (some ⟨b52, 0, none⟩)), (3, .pointer (some ⟨b52, 0, none⟩))] w53 (by kernel_rfl) ?_
    refine W_val (.int .i64 x50.Tick) w53 (by kernel_rfl) (E_load (e := 26) (fr := (0, 0)) _ _ false 1 b52 0 [.int .i64 x50.Tick, .int .i64 x50.Guest, .string x50.Kind, .int .i64 x50.Value] (.int .i64 x50.Tick) rfl (by kernel_rfl) (by kernel_rfl) (by kernel_rfl) (M54.blk 0 (b := b52) (o := .cells ⟨[.int .i64 x50.Tick, .int .i64 x50.Guest, .string x50.Kind, .int .i64 x50.Value]⟩ 26 (0, 0)) (by kernel_rfl))) ?_
    obtain ⟨r164, hr164, hm⟩ := gx_bind hm
    refine W_call 65 #[.int .i64 x50.Tick] (by kernel_rfl) (by kernel_rfl) ?_
    refine (c_s_l11Tick w53 x50.Tick hr164).mono ?_
    rintro e_ w165 ⟨rfl, K166⟩
    have M167 := M54.call0 K166
    refine ⟨_, rfl, ?_⟩
    refine W_run 1 [(1, .pointer (some ⟨b52, 0, none⟩)), (6, .bool r164)] w165 (by kernel_rfl) ?_
    rcases gx_bif hm with ⟨hc168, hm⟩ | ⟨hc168, hm⟩
    · refine W_known 6 true (by kernel_rfl) hc168 ?_
      refine W_run 1 [(1, .pointer (some ⟨b52, 0, none⟩)), (6, .bool true), (7, .pointer (some ⟨b52, 1, none⟩))] w165 (by kernel_rfl) ?_
      refine W_val (.int .i64 x50.Guest) w165 (by kernel_rfl) (E_load (e := 26) (fr := (0, 0)) _ _ false 1 b52 1 [.int .i64 x50.Tick, .int .i64 x50.Guest, .string x50.Kind, .int .i64 x50.Value] (.int .i64 x50.Guest) rfl (by kernel_rfl) (by kernel_rfl) (by kernel_rfl) (M167.blk 0 (b := b52) (o := .cells ⟨[.int .i64 x50.Tick, .int .i64 x50.Guest, .string x50.Kind, .int .i64 x50.Value]⟩ 26 (0, 0)) (by kernel_rfl))) ?_
      obtain ⟨r169, hr169, hm⟩ := gx_bind hm
      refine W_call 61 #[.int .i64 x50.Guest] (by kernel_rfl) (by kernel_rfl) ?_
      refine (c_s_l22Guest w165 x50.Guest hr169).mono ?_
      rintro e_ w170 ⟨rfl, K171⟩
      have M172 := M167.call0 K171
      refine ⟨_, rfl, ?_⟩
      refine W_run 2 [(1, .pointer (some ⟨b52, 0, none⟩)), (11, .bool r169)] w170 (by kernel_rfl) ?_
      rcases gx_bif hm with ⟨hc173, hm⟩ | ⟨hc173, hm⟩
      · refine W_known 11 true (by kernel_rfl) hc173 ?_
        refine W_run 1 [(1, .pointer (some ⟨b52, 0, none⟩)), (11, .bool true), (12, .pointer (some ⟨b52, 2, none⟩))] w170 (by kernel_rfl) ?_
        refine W_val (.string x50.Kind) w170 (by kernel_rfl) (E_load (e := 26) (fr := (0, 0)) _ _ false 1 b52 2 [.int .i64 x50.Tick, .int .i64 x50.Guest, .string x50.Kind, .int .i64 x50.Value] (.string x50.Kind) rfl (by kernel_rfl) (by kernel_rfl) (by kernel_rfl) (M172.blk 0 (b := b52) (o := .cells ⟨[.int .i64 x50.Tick, .int .i64 x50.Guest, .string x50.Kind, .int .i64 x50.Value]⟩ 26 (0, 0)) (by kernel_rfl))) ?_
        obtain ⟨r174, hr174, hm⟩ := gx_bind hm
        refine W_call 79 #[.string x50.Kind] (by kernel_rfl) (by kernel_rfl) ?_
        refine (c_s_l22Kind w170 x50.Kind hr174).mono ?_
        rintro e_ w175 ⟨rfl, K176⟩
        have M177 := M172.call0 K176
        refine ⟨_, rfl, ?_⟩
        refine W_run 2 [(1, .pointer (some ⟨b52, 0, none⟩)), (16, .bool r174)] w175 (by kernel_rfl) ?_
        rcases gx_bif hm with ⟨hc178, hm⟩ | ⟨hc178, hm⟩
        · refine W_known 16 true (by kernel_rfl) hc178 ?_
          refine W_run 1 [(16, .bool true), (17, .pointer (some ⟨b52, 3, none⟩))] w175 (by kernel_rfl) ?_
          refine W_val (.int .i64 x50.Value) w175 (by kernel_rfl) (E_load (e := 26) (fr := (0, 0)) _ _ false 1 b52 3 [.int .i64 x50.Tick, .int .i64 x50.Guest, .string x50.Kind, .int .i64 x50.Value] (.int .i64 x50.Value) rfl (by kernel_rfl) (by kernel_rfl) (by kernel_rfl) (M177.blk 0 (b := b52) (o := .cells ⟨[.int .i64 x50.Tick, .int .i64 x50.Guest, .string x50.Kind, .int .i64 x50.Value]⟩ 26 (0, 0)) (by kernel_rfl))) ?_
          obtain ⟨r179, hr179, hm⟩ := gx_bind hm
          refine W_call 58 #[.int .i64 x50.Value, .int .i64 0, .int .i64 65535] (by kernel_rfl) (by kernel_rfl) ?_
          refine (c_s_l1In w175 x50.Value 0 65535 hr179).mono ?_
          rintro e_ w180 ⟨rfl, K181⟩
          have M182 := M177.call0 K181
          refine ⟨_, rfl, ?_⟩
          refine W_run 2 [(2, .bool r179)] w180 (by kernel_rfl) ?_
          refine W_nil ?_
          obtain rfl := Option.some.inj hm
          exact N_meet fun a ha => ⟨M182.pick [] (by kernel_rfl), ha.sub (by kernel_rfl)⟩
        refine W_known 16 false (by kernel_rfl) hc178 ?_
        refine W_run 5 [(2, .bool false)] w175 (by kernel_rfl) ?_
        refine W_nil ?_
        obtain rfl := Option.some.inj hm
        exact N_meet fun a ha => ⟨M177.pick [] (by kernel_rfl), ha.sub (by kernel_rfl)⟩
      refine W_known 11 false (by kernel_rfl) hc173 ?_
      refine W_run 10 [(2, .bool false)] w170 (by kernel_rfl) ?_
      refine W_nil ?_
      obtain rfl := Option.some.inj hm
      exact N_meet fun a ha => ⟨M172.pick [] (by kernel_rfl), ha.sub (by kernel_rfl)⟩
    refine W_known 6 false (by kernel_rfl) hc168 ?_
    refine W_run 15 [(2, .bool false)] w165 (by kernel_rfl) ?_
    refine W_nil ?_
    obtain rfl := Option.some.inj hm
    exact N_meet fun a ha => ⟨M167.pick [] (by kernel_rfl), ha.sub (by kernel_rfl)⟩
  intro a185 w183 ⟨M184, hS186⟩
  refine N_use hS186 ?_
  have hm := hm163
  refine N_then ?_
  refine G_ret ?_
  obtain rfl := Option.some.inj hm
  refine N_ret [.bool o161] (RVs_cons (RV_tmp (by kernel_rfl)) RVs_nil) ?_
  exact ⟨rfl, M184.pick [] (by kernel_rfl)⟩
theorem c_s_IsEvent (w : World) (x45 : Event) {r : Bool} (hm : M.s_IsEvent x45 = some r) :
    Calls Try.prog 14 #[.agg #[.int .i64 x45.Tick, .int .i64 x45.Guest, .string x45.Kind, .int .i64 x45.Value]] w fun e w' => e = .returned (.bool r) ∧ Mem [] w w' [] := by
  unfold M.s_IsEvent at hm
  refine C_enter Try.func14 rfl (by kernel_rfl) ?_
  have M0 := Mem.refl [] w
  refine G_seq ?_
  refine G_region ?_
  refine W_new (fun b => .pointer (some ⟨b, 0, none⟩)) (.cells ⟨[.int .i64 x45.Tick, .int .i64 x45.Guest, .string x45.Kind, .int .i64 x45.Value]⟩ 26 (0, 0)) M0 rfl (by kernel_rfl) (by kernel_rfl) ?_
  intro b47 w48 M49
  refine W_run 1 [(1, .pointer (some ⟨b47, 0, none⟩))] w48 (by kernel_rfl) ?_
  refine W_nil ?_
  refine N_then ?_
  refine G_seq ?_
  refine G_region ?_
  refine W_val (.agg #[.int .i64 x45.Tick, .int .i64 x45.Guest, .string x45.Kind, .int .i64 x45.Value]) w48 (by kernel_rfl) (E_load (e := 26) (fr := (0, 0)) _ _ true 4 b47 0 [.int .i64 x45.Tick, .int .i64 x45.Guest, .string x45.Kind, .int .i64 x45.Value] (.agg #[.int .i64 x45.Tick, .int .i64 x45.Guest, .string x45.Kind, .int .i64 x45.Value]) rfl (by kernel_rfl) (by kernel_rfl) (by kernel_rfl) (M49.blk 0 (b := b47) (o := .cells ⟨[.int .i64 x45.Tick, .int .i64 x45.Guest, .string x45.Kind, .int .i64 x45.Value]⟩ 26 (0, 0)) (by kernel_rfl))) ?_
  obtain ⟨r187, hr187, hm⟩ := gx_bind hm
  refine W_call 51 #[.agg #[.int .i64 x45.Tick, .int .i64 x45.Guest, .string x45.Kind, .int .i64 x45.Value]] (by kernel_rfl) (by kernel_rfl) ?_
  refine (c_s_l22One w48 x45 hr187).mono ?_
  rintro e_ w188 ⟨rfl, K189⟩
  have M190 := M49.call0 K189
  refine ⟨_, rfl, ?_⟩
  refine W_run 1 [(2, .bool r187)] w188 (by kernel_rfl) ?_
  refine W_nil ?_
  refine N_then ?_
  refine G_ret ?_
  obtain rfl := Option.some.inj hm
  refine N_ret [.bool r187] (RVs_cons (RV_tmp (by kernel_rfl)) RVs_nil) ?_
  exact ⟨rfl, M190.pick [] (by kernel_rfl)⟩
theorem c_i_inside (w : World) (x205 : Int) (x206 : Int) (x207 : Int) {r : Bool} (hm : M.i_inside x205 x206 x207 = some r) :
    Calls Try.prog 67 #[.int .i64 x205, .int .i64 x206, .int .i64 x207] w fun e w' => e = .returned (.bool r) ∧ Mem [] w w' [] := by
  unfold M.i_inside at hm
  refine C_enter Try.func67 rfl (by kernel_rfl) ?_
  have M0 := Mem.refl [] w
  refine G_seq ?_
  refine G_region ?_
  refine W_run 1 [(0, .int .i64 x205), (1, .int .i64 x206), (2, .int .i64 x207)] w (by kernel_rfl) ?_
  refine W_nil ?_
  refine N_then ?_
  refine G_seq ?_
  obtain ⟨o209, ho210, hm211⟩ := gx_bind hm
  refine G_meet (fun a w' => Mem [] w w' [] ∧ Sat Try.f67.ntmps [(6, .bool o209)] a) ?_ ?_
  · have hm := ho210
    refine G_region ?_
    refine W_run 4 [(0, .int .i64 x205), (2, .int .i64 x207), (10, .bool (decide (x205 ≥ x206)))] w (by kernel_rfl) ?_
    rcases gx_bif hm with ⟨hc212, hm⟩ | ⟨hc212, hm⟩
    · refine W_known 10 true (by kernel_rfl) hc212 ?_
      refine W_run 5 [(6, .bool (decide (x205 ≤ x207)))] w (by kernel_rfl) ?_
      refine W_nil ?_
      obtain rfl := Option.some.inj hm
      exact N_meet fun a ha => ⟨M0.pick [] (by kernel_rfl), ha.sub (by kernel_rfl)⟩
    refine W_known 10 false (by kernel_rfl) hc212 ?_
    refine W_run 5 [(6, .bool false)] w (by kernel_rfl) ?_
    refine W_nil ?_
    obtain rfl := Option.some.inj hm
    exact N_meet fun a ha => ⟨M0.pick [] (by kernel_rfl), ha.sub (by kernel_rfl)⟩
  intro a215 w213 ⟨M214, hS216⟩
  refine N_use hS216 ?_
  have hm := hm211
  refine N_then ?_
  refine G_ret ?_
  obtain rfl := Option.some.inj hm
  refine N_ret [.bool o209] (RVs_cons (RV_tmp (by kernel_rfl)) RVs_nil) ?_
  exact ⟨rfl, M214.pick [] (by kernel_rfl)⟩
theorem c_i_isTick (w : World) (x204 : Int) {r : Bool} (hm : M.i_isTick x204 = some r) :
    Calls Try.prog 52 #[.int .i64 x204] w fun e w' => e = .returned (.bool r) ∧ Mem [] w w' [] := by
  unfold M.i_isTick at hm
  refine C_enter Try.func52 rfl (by kernel_rfl) ?_
  have M0 := Mem.refl [] w
  refine G_seq ?_
  refine G_region ?_
  refine W_run 1 [(0, .int .i64 x204)] w (by kernel_rfl) ?_
  refine W_nil ?_
  refine N_then ?_
  refine G_seq ?_
  refine G_region ?_
  refine W_run 1 [(3, .int .i64 x204)] w (by kernel_rfl) ?_
  obtain ⟨r217, hr217, hm⟩ := gx_bind hm
  refine W_call 67 #[.int .i64 x204, .int .i64 0, .int .i64 100000] (by kernel_rfl) (by kernel_rfl) ?_
  refine (c_i_inside w x204 0 100000 hr217).mono ?_
  rintro e_ w218 ⟨rfl, K219⟩
  have M220 := M0.call0 K219
  refine ⟨_, rfl, ?_⟩
  refine W_run 1 [(2, .bool r217)] w218 (by kernel_rfl) ?_
  refine W_nil ?_
  refine N_then ?_
  refine G_ret ?_
  obtain rfl := Option.some.inj hm
  refine N_ret [.bool r217] (RVs_cons (RV_tmp (by kernel_rfl)) RVs_nil) ?_
  exact ⟨rfl, M220.pick [] (by kernel_rfl)⟩
theorem c_i_isParty (w : World) (x226 : Int) {r : Bool} (hm : M.i_isParty x226 = some r) :
    Calls Try.prog 53 #[.int .i64 x226] w fun e w' => e = .returned (.bool r) ∧ Mem [] w w' [] := by
  unfold M.i_isParty at hm
  refine C_enter Try.func53 rfl (by kernel_rfl) ?_
  have M0 := Mem.refl [] w
  refine G_seq ?_
  refine G_region ?_
  refine W_run 1 [(0, .int .i64 x226)] w (by kernel_rfl) ?_
  refine W_nil ?_
  refine N_then ?_
  refine G_seq ?_
  refine G_region ?_
  refine W_run 1 [(3, .int .i64 x226)] w (by kernel_rfl) ?_
  obtain ⟨r227, hr227, hm⟩ := gx_bind hm
  refine W_call 67 #[.int .i64 x226, .int .i64 0, .int .i64 4] (by kernel_rfl) (by kernel_rfl) ?_
  refine (c_i_inside w x226 0 4 hr227).mono ?_
  rintro e_ w228 ⟨rfl, K229⟩
  have M230 := M0.call0 K229
  refine ⟨_, rfl, ?_⟩
  refine W_run 1 [(2, .bool r227)] w228 (by kernel_rfl) ?_
  refine W_nil ?_
  refine N_then ?_
  refine G_ret ?_
  obtain rfl := Option.some.inj hm
  refine N_ret [.bool r227] (RVs_cons (RV_tmp (by kernel_rfl)) RVs_nil) ?_
  exact ⟨rfl, M230.pick [] (by kernel_rfl)⟩
theorem c_i_isWord (w : World) (x237 : ByteArray) {r : Bool} (hm : M.i_isWord x237 = some r) :
    Calls Try.prog 80 #[.string x237] w fun e w' => e = .returned (.bool r) ∧ Mem [] w w' [] := by
  unfold M.i_isWord at hm
  refine C_enter Try.func80 rfl (by kernel_rfl) ?_
  have M0 := Mem.refl [] w
  refine G_seq ?_
  refine G_region ?_
  refine W_run 1 [(0, .string x237)] w (by kernel_rfl) ?_
  refine W_nil ?_
  refine N_then ?_
  refine G_seq ?_
  refine G_seq ?_
  refine G_region ?_
  refine W_run 1 [(0, .string x237), (3, .int .i64 0)] w (by kernel_rfl) ?_
  refine W_nil ?_
  refine N_then ?_
  obtain ⟨out275, hw276, hmo277⟩ := gx_bind hm
  refine G_meet (fun a w' => ∃ (o278 : Unit), out275 = .inl o278 ∧ Mem [] w w' [] ∧ Sat Try.f80.ntmps [(0, .string x237)] a) ?_ ?_
  · refine G_block ?_
    refine G_while (σ := Int) (ρ := (Unit) ⊕ (Bool)) (fun s268 a w' => Mem [] w w' [] ∧ Sat Try.f80.ntmps [(0, .string x237), (3, .int .i64 s268)] a) hw276 (fun a ha => ⟨M0.pick [] (by kernel_rfl), ha.sub (by kernel_rfl)⟩) ?_
    clear hm
    intro s268 x269 hm hout270 a271 w272 ⟨M273, hS274⟩
    refine G_use hS274 ?_
    refine G_seq ?_
    refine G_seq ?_
    refine G_region ?_
    refine W_run 4 [(0, .string x237), (3, .int .i64 s268), (7, .bool (decide (s268 < (x237.size : Int))))] w272 (by kernel_rfl) ?_
    refine W_nil ?_
    refine N_then ?_
    rcases gx_bif hm with ⟨hc279, hm⟩ | ⟨hc279, hm⟩
    · refine G_cond_t (b := (decide (s268 < (x237.size : Int)))) hc279 (by kernel_rfl) ?_
      refine G_skip ?_
      refine N_then ?_
      refine G_seq ?_
      refine G_block ?_
      refine G_seq ?_
      obtain ⟨o283, ho284, hm285⟩ := gx_bind hm
      refine G_meet (fun a w' => Mem [] w w' [] ∧ Sat Try.f80.ntmps [(0, .string x237), (3, .int .i64 s268), (19, .bool o283)] a) ?_ ?_
      · have hm := ho284
        refine G_region ?_
        refine W_run 2 [(0, .string x237), (3, .int .i64 s268), (10, .string x237), (11, .int .i64 s268)] w272 (by kernel_rfl) ?_
        obtain ⟨q286, hq286, hm⟩ := gx_bind hm
        refine W_val (.int .u8 q286) w272 (by kernel_rfl) (E_strIdx _ _ _ x237 .i64 s268 q286 rfl (by kernel_rfl) (by kernel_rfl) (by kernel_rfl) hq286) ?_
        refine W_run 2 [(0, .string x237), (3, .int .i64 s268), (14, .bool (decide (q286 < 97)))] w272 (by kernel_rfl) ?_
        rcases gx_bif hm with ⟨hc287, hm⟩ | ⟨hc287, hm⟩
        · refine W_known 14 true (by kernel_rfl) hc287 ?_
          refine W_run 5 [(0, .string x237), (3, .int .i64 s268), (19, .bool true)] w272 (by kernel_rfl) ?_
          refine W_nil ?_
          obtain rfl := Option.some.inj hm
          exact N_meet fun a ha => ⟨M273.pick [] (by kernel_rfl), ha.sub (by kernel_rfl)⟩
        refine W_known 14 false (by kernel_rfl) hc287 ?_
        refine W_run 2 [(0, .string x237), (3, .int .i64 s268), (14, .bool false), (15, .string x237), (16, .int .i64 s268)] w272 (by kernel_rfl) ?_
        obtain ⟨q288, hq288, hm⟩ := gx_bind hm
        refine W_val (.int .u8 q288) w272 (by kernel_rfl) (E_strIdx _ _ _ x237 .i64 s268 q288 rfl (by kernel_rfl) (by kernel_rfl) (by kernel_rfl) hq288) ?_
        refine W_run 2 [(0, .string x237), (3, .int .i64 s268), (19, .bool (decide (q288 > 122)))] w272 (by kernel_rfl) ?_
        refine W_nil ?_
        obtain rfl := Option.some.inj hm
        exact N_meet fun a ha => ⟨M273.pick [] (by kernel_rfl), ha.sub (by kernel_rfl)⟩
      intro a291 w289 ⟨M290, hS292⟩
      refine N_use hS292 ?_
      have hm := hm285
      refine N_then ?_
      rcases gx_bif hm with ⟨hc293, hm⟩ | ⟨hc293, hm⟩
      · refine G_cond_t (b := o283) hc293 (by kernel_rfl) ?_
        refine G_seq ?_
        refine G_region ?_
        refine W_run 1 [(2, .bool false)] w289 (by kernel_rfl) ?_
        refine W_nil ?_
        refine N_then ?_
        refine G_ret ?_
        refine N_block_ret ?_
        refine N_then_ret ?_
        refine N_then_ret ?_
        obtain rfl := Option.some.inj hm
        obtain rfl := hout270 _ rfl
        have hm := hmo277; simp only [Sum.elim_inr] at hm
        refine N_block_ret ?_
        refine N_meet_ret ?_
        refine N_then_ret ?_
        obtain rfl := Option.some.inj hm
        refine N_ret [.bool false] (RVs_cons (RV_tmp (by kernel_rfl)) RVs_nil) ?_
        exact ⟨rfl, M290.pick [] (by kernel_rfl)⟩
      refine G_cond_f (b := o283) hc293 (by kernel_rfl) ?_
      refine G_skip ?_
      refine N_block ?_
      refine N_then ?_
      refine G_region ?_
      refine W_run 3 [(0, .string x237), (3, .int .i64 (w64 (s268 + 1)))] w289 (by kernel_rfl) ?_
      refine W_nil ?_
      obtain rfl := Option.some.inj hm
      exact N_loop fun a ha => ⟨_, rfl, M290.pick [] (by kernel_rfl), ha.sub (by kernel_rfl)⟩
    refine G_cond_f (b := (decide (s268 < (x237.size : Int)))) hc279 (by kernel_rfl) ?_
    refine G_exit ?_
    refine N_then_exit ?_
    refine N_then_exit ?_
    refine N_block_eq ?_
    obtain rfl := Option.some.inj hm
    obtain rfl := hout270 _ rfl
    exact N_meet fun a ha => ⟨_, rfl, M273.pick [] (by kernel_rfl), ha.sub (by kernel_rfl)⟩
  intro a294 w295 ⟨o278, hout_, M296, hS297⟩
  refine N_use hS297 ?_
  subst hout_
  have hm := hmo277; simp only [Sum.elim_inl] at hm
  refine N_then ?_
  refine G_seq ?_
  refine G_region ?_
  refine W_run 2 [(21, .int .i64 (x237.size : Int))] w295 (by kernel_rfl) ?_
  obtain ⟨r298, hr298, hm⟩ := gx_bind hm
  refine W_call 67 #[.int .i64 (x237.size : Int), .int .i64 1, .int .i64 10] (by kernel_rfl) (by kernel_rfl) ?_
  refine (c_i_inside w295 (x237.size : Int) 1 10 hr298).mono ?_
  rintro e_ w299 ⟨rfl, K300⟩
  have M301 := M296.call0 K300
  refine ⟨_, rfl, ?_⟩
  refine W_run 1 [(2, .bool r298)] w299 (by kernel_rfl) ?_
  refine W_nil ?_
  refine N_then ?_
  refine G_ret ?_
  obtain rfl := Option.some.inj hm
  refine N_ret [.bool r298] (RVs_cons (RV_tmp (by kernel_rfl)) RVs_nil) ?_
  exact ⟨rfl, M301.pick [] (by kernel_rfl)⟩
theorem c_i_isEventKind (w : World) (x236 : ByteArray) {r : Bool} (hm : M.i_isEventKind x236 = some r) :
    Calls Try.prog 54 #[.string x236] w fun e w' => e = .returned (.bool r) ∧ Mem [] w w' [] := by
  unfold M.i_isEventKind at hm
  refine C_enter Try.func54 rfl (by kernel_rfl) ?_
  have M0 := Mem.refl [] w
  refine G_seq ?_
  refine G_region ?_
  refine W_run 1 [(0, .string x236)] w (by kernel_rfl) ?_
  refine W_nil ?_
  refine N_then ?_
  refine G_seq ?_
  obtain ⟨o307, ho308, hm309⟩ := gx_bind hm
  refine G_meet (fun a w' => Mem [] w w' [] ∧ Sat Try.f54.ntmps [(2, .bool o307)] a) ?_ ?_
  · have hm := ho308
    refine G_region ?_
    refine W_run 1 [(0, .string x236), (3, .string x236)] w (by kernel_rfl) ?_
    obtain ⟨r310, hr310, hm⟩ := gx_bind hm
    refine W_call 80 #[.string x236] (by kernel_rfl) (by kernel_rfl) ?_
    refine (c_i_isWord w x236 hr310).mono ?_
    rintro e_ w311 ⟨rfl, K312⟩
    have M313 := M0.call0 K312
    refine ⟨_, rfl, ?_⟩
    refine W_run 1 [(0, .string x236), (5, .bool r310)] w311 (by kernel_rfl) ?_
    rcases gx_bif hm with ⟨hc314, hm⟩ | ⟨hc314, hm⟩
    · refine W_known 5 true (by kernel_rfl) hc314 ?_
      refine W_run 5 [(2, .bool (decide ((x236.size : Int) ≤ 8)))] w311 (by kernel_rfl) ?_
      refine W_nil ?_
      obtain rfl := Option.some.inj hm
      exact N_meet fun a ha => ⟨M313.pick [] (by kernel_rfl), ha.sub (by kernel_rfl)⟩
    refine W_known 5 false (by kernel_rfl) hc314 ?_
    refine W_run 5 [(2, .bool false)] w311 (by kernel_rfl) ?_
    refine W_nil ?_
    obtain rfl := Option.some.inj hm
    exact N_meet fun a ha => ⟨M313.pick [] (by kernel_rfl), ha.sub (by kernel_rfl)⟩
  intro a317 w315 ⟨M316, hS318⟩
  refine N_use hS318 ?_
  have hm := hm309
  refine N_then ?_
  refine G_ret ?_
  obtain rfl := Option.some.inj hm
  refine N_ret [.bool o307] (RVs_cons (RV_tmp (by kernel_rfl)) RVs_nil) ?_
  exact ⟨rfl, M316.pick [] (by kernel_rfl)⟩
theorem c_i_isWord16 (w : World) (x324 : Int) {r : Bool} (hm : M.i_isWord16 x324 = some r) :
    Calls Try.prog 55 #[.int .i64 x324] w fun e w' => e = .returned (.bool r) ∧ Mem [] w w' [] := by
  unfold M.i_isWord16 at hm
  refine C_enter Try.func55 rfl (by kernel_rfl) ?_
  have M0 := Mem.refl [] w
  refine G_seq ?_
  refine G_region ?_
  refine W_run 1 [(0, .int .i64 x324)] w (by kernel_rfl) ?_
  refine W_nil ?_
  refine N_then ?_
  refine G_seq ?_
  refine G_region ?_
  refine W_run 1 [(3, .int .i64 x324)] w (by kernel_rfl) ?_
  obtain ⟨r325, hr325, hm⟩ := gx_bind hm
  refine W_call 67 #[.int .i64 x324, .int .i64 0, .int .i64 65535] (by kernel_rfl) (by kernel_rfl) ?_
  refine (c_i_inside w x324 0 65535 hr325).mono ?_
  rintro e_ w326 ⟨rfl, K327⟩
  have M328 := M0.call0 K327
  refine ⟨_, rfl, ?_⟩
  refine W_run 1 [(2, .bool r325)] w326 (by kernel_rfl) ?_
  refine W_nil ?_
  refine N_then ?_
  refine G_ret ?_
  obtain rfl := Option.some.inj hm
  refine N_ret [.bool r325] (RVs_cons (RV_tmp (by kernel_rfl)) RVs_nil) ?_
  exact ⟨rfl, M328.pick [] (by kernel_rfl)⟩
theorem c_i_IsEvent (w : World) (x199 : Event) {r : Bool} (hm : M.i_IsEvent x199 = some r) :
    Calls Try.prog 16 #[.agg #[.int .i64 x199.Tick, .int .i64 x199.Guest, .string x199.Kind, .int .i64 x199.Value]] w fun e w' => e = .returned (.bool r) ∧ Mem [] w w' [] := by
  unfold M.i_IsEvent at hm
  refine C_enter Try.func16 rfl (by kernel_rfl) ?_
  have M0 := Mem.refl [] w
  refine G_seq ?_
  refine G_region ?_
  refine W_new (fun b => .pointer (some ⟨b, 0, none⟩)) (.cells ⟨[.int .i64 x199.Tick, .int .i64 x199.Guest, .string x199.Kind, .int .i64 x199.Value]⟩ 26 (0, 0)) M0 rfl (by kernel_rfl) (by kernel_rfl) ?_
  intro b201 w202 M203
  refine W_run 1 [(1, .pointer (some ⟨b201, 0, none⟩))] w202 (by kernel_rfl) ?_
  refine W_nil ?_
  refine N_then ?_
  refine G_seq ?_
  obtain ⟨o333, ho334, hm335⟩ := gx_bind hm
  refine G_meet (fun a w' => Mem [] w w' [] ∧ Sat Try.f16.ntmps [(2, .bool o333)] a) ?_ ?_
  · have hm := ho334
    refine G_region ?_
    refine W_run 1 [(1, .pointer (some ⟨b201, 0, none⟩)), (3, .pointer (some ⟨b201, 0, none⟩))] w202 (by kernel_rfl) ?_
    refine W_val (.int .i64 x199.Tick) w202 (by kernel_rfl) (E_load (e := 26) (fr := (0, 0)) _ _ false 1 b201 0 [.int .i64 x199.Tick, .int .i64 x199.Guest, .string x199.Kind, .int .i64 x199.Value] (.int .i64 x199.Tick) rfl (by kernel_rfl) (by kernel_rfl) (by kernel_rfl) (M203.blk 0 (b := b201) (o := .cells ⟨[.int .i64 x199.Tick, .int .i64 x199.Guest, .string x199.Kind, .int .i64 x199.Value]⟩ 26 (0, 0)) (by kernel_rfl))) ?_
    obtain ⟨r336, hr336, hm⟩ := gx_bind hm
    refine W_call 52 #[.int .i64 x199.Tick] (by kernel_rfl) (by kernel_rfl) ?_
    refine (c_i_isTick w202 x199.Tick hr336).mono ?_
    rintro e_ w337 ⟨rfl, K338⟩
    have M339 := M203.call0 K338
    refine ⟨_, rfl, ?_⟩
    refine W_run 1 [(1, .pointer (some ⟨b201, 0, none⟩)), (6, .bool r336)] w337 (by kernel_rfl) ?_
    rcases gx_bif hm with ⟨hc340, hm⟩ | ⟨hc340, hm⟩
    · refine W_known 6 true (by kernel_rfl) hc340 ?_
      refine W_run 1 [(1, .pointer (some ⟨b201, 0, none⟩)), (6, .bool true), (7, .pointer (some ⟨b201, 1, none⟩))] w337 (by kernel_rfl) ?_
      refine W_val (.int .i64 x199.Guest) w337 (by kernel_rfl) (E_load (e := 26) (fr := (0, 0)) _ _ false 1 b201 1 [.int .i64 x199.Tick, .int .i64 x199.Guest, .string x199.Kind, .int .i64 x199.Value] (.int .i64 x199.Guest) rfl (by kernel_rfl) (by kernel_rfl) (by kernel_rfl) (M339.blk 0 (b := b201) (o := .cells ⟨[.int .i64 x199.Tick, .int .i64 x199.Guest, .string x199.Kind, .int .i64 x199.Value]⟩ 26 (0, 0)) (by kernel_rfl))) ?_
      obtain ⟨r341, hr341, hm⟩ := gx_bind hm
      refine W_call 53 #[.int .i64 x199.Guest] (by kernel_rfl) (by kernel_rfl) ?_
      refine (c_i_isParty w337 x199.Guest hr341).mono ?_
      rintro e_ w342 ⟨rfl, K343⟩
      have M344 := M339.call0 K343
      refine ⟨_, rfl, ?_⟩
      refine W_run 2 [(1, .pointer (some ⟨b201, 0, none⟩)), (11, .bool r341)] w342 (by kernel_rfl) ?_
      rcases gx_bif hm with ⟨hc345, hm⟩ | ⟨hc345, hm⟩
      · refine W_known 11 true (by kernel_rfl) hc345 ?_
        refine W_run 1 [(1, .pointer (some ⟨b201, 0, none⟩)), (11, .bool true), (12, .pointer (some ⟨b201, 2, none⟩))] w342 (by kernel_rfl) ?_
        refine W_val (.string x199.Kind) w342 (by kernel_rfl) (E_load (e := 26) (fr := (0, 0)) _ _ false 1 b201 2 [.int .i64 x199.Tick, .int .i64 x199.Guest, .string x199.Kind, .int .i64 x199.Value] (.string x199.Kind) rfl (by kernel_rfl) (by kernel_rfl) (by kernel_rfl) (M344.blk 0 (b := b201) (o := .cells ⟨[.int .i64 x199.Tick, .int .i64 x199.Guest, .string x199.Kind, .int .i64 x199.Value]⟩ 26 (0, 0)) (by kernel_rfl))) ?_
        obtain ⟨r346, hr346, hm⟩ := gx_bind hm
        refine W_call 54 #[.string x199.Kind] (by kernel_rfl) (by kernel_rfl) ?_
        refine (c_i_isEventKind w342 x199.Kind hr346).mono ?_
        rintro e_ w347 ⟨rfl, K348⟩
        have M349 := M344.call0 K348
        refine ⟨_, rfl, ?_⟩
        refine W_run 2 [(1, .pointer (some ⟨b201, 0, none⟩)), (16, .bool r346)] w347 (by kernel_rfl) ?_
        rcases gx_bif hm with ⟨hc350, hm⟩ | ⟨hc350, hm⟩
        · refine W_known 16 true (by kernel_rfl) hc350 ?_
          refine W_run 1 [(16, .bool true), (17, .pointer (some ⟨b201, 3, none⟩))] w347 (by kernel_rfl) ?_
          refine W_val (.int .i64 x199.Value) w347 (by kernel_rfl) (E_load (e := 26) (fr := (0, 0)) _ _ false 1 b201 3 [.int .i64 x199.Tick, .int .i64 x199.Guest, .string x199.Kind, .int .i64 x199.Value] (.int .i64 x199.Value) rfl (by kernel_rfl) (by kernel_rfl) (by kernel_rfl) (M349.blk 0 (b := b201) (o := .cells ⟨[.int .i64 x199.Tick, .int .i64 x199.Guest, .string x199.Kind, .int .i64 x199.Value]⟩ 26 (0, 0)) (by kernel_rfl))) ?_
          obtain ⟨r351, hr351, hm⟩ := gx_bind hm
          refine W_call 55 #[.int .i64 x199.Value] (by kernel_rfl) (by kernel_rfl) ?_
          refine (c_i_isWord16 w347 x199.Value hr351).mono ?_
          rintro e_ w352 ⟨rfl, K353⟩
          have M354 := M349.call0 K353
          refine ⟨_, rfl, ?_⟩
          refine W_run 2 [(2, .bool r351)] w352 (by kernel_rfl) ?_
          refine W_nil ?_
          obtain rfl := Option.some.inj hm
          exact N_meet fun a ha => ⟨M354.pick [] (by kernel_rfl), ha.sub (by kernel_rfl)⟩
        refine W_known 16 false (by kernel_rfl) hc350 ?_
        refine W_run 5 [(2, .bool false)] w347 (by kernel_rfl) ?_
        refine W_nil ?_
        obtain rfl := Option.some.inj hm
        exact N_meet fun a ha => ⟨M349.pick [] (by kernel_rfl), ha.sub (by kernel_rfl)⟩
      refine W_known 11 false (by kernel_rfl) hc345 ?_
      refine W_run 10 [(2, .bool false)] w342 (by kernel_rfl) ?_
      refine W_nil ?_
      obtain rfl := Option.some.inj hm
      exact N_meet fun a ha => ⟨M344.pick [] (by kernel_rfl), ha.sub (by kernel_rfl)⟩
    refine W_known 6 false (by kernel_rfl) hc340 ?_
    refine W_run 15 [(2, .bool false)] w337 (by kernel_rfl) ?_
    refine W_nil ?_
    obtain rfl := Option.some.inj hm
    exact N_meet fun a ha => ⟨M339.pick [] (by kernel_rfl), ha.sub (by kernel_rfl)⟩
  intro a357 w355 ⟨M356, hS358⟩
  refine N_use hS358 ?_
  have hm := hm335
  refine N_then ?_
  refine G_ret ?_
  obtain rfl := Option.some.inj hm
  refine N_ret [.bool o333] (RVs_cons (RV_tmp (by kernel_rfl)) RVs_nil) ?_
  exact ⟨rfl, M356.pick [] (by kernel_rfl)⟩
theorem c_l_FnExactIsEvent (w : World) (x1 : Event) {r : Bool} (hm : M.l_FnExactIsEvent x1 = some r) :
    Calls Try.prog 3 #[.agg #[.int .i64 x1.Tick, .int .i64 x1.Guest, .string x1.Kind, .int .i64 x1.Value]] w fun e w' => e = .returned (.bool r) ∧ Mem [] w w' [] := by
  unfold M.l_FnExactIsEvent at hm
  refine C_enter Try.func3 rfl (by kernel_rfl) ?_
  have M0 := Mem.refl [] w
  refine G_seq ?_
  refine G_region ?_
  refine W_new (fun b => .pointer (some ⟨b, 0, none⟩)) (.cells ⟨[.int .i64 x1.Tick, .int .i64 x1.Guest, .string x1.Kind, .int .i64 x1.Value]⟩ 23 (0, 0)) M0 rfl (by kernel_rfl) (by kernel_rfl) ?_
  intro b3 w4 M5
  refine W_run 1 [(1, .pointer (some ⟨b3, 0, none⟩))] w4 (by kernel_rfl) ?_
  refine W_nil ?_
  refine N_then ?_
  refine G_seq ?_
  refine G_region ?_
  refine W_run 1 [(1, .pointer (some ⟨b3, 0, none⟩)), (3, .int .i64 1048576)] w4 (by kernel_rfl) ?_
  refine W_nil ?_
  refine N_then ?_
  refine G_seq ?_
  refine G_region ?_
  refine W_val (.agg #[.int .i64 x1.Tick, .int .i64 x1.Guest, .string x1.Kind, .int .i64 x1.Value]) w4 (by kernel_rfl) (E_load (e := 23) (fr := (0, 0)) _ _ true 4 b3 0 [.int .i64 x1.Tick, .int .i64 x1.Guest, .string x1.Kind, .int .i64 x1.Value] (.agg #[.int .i64 x1.Tick, .int .i64 x1.Guest, .string x1.Kind, .int .i64 x1.Value]) rfl (by kernel_rfl) (by kernel_rfl) (by kernel_rfl) (M5.blk 0 (b := b3) (o := .cells ⟨[.int .i64 x1.Tick, .int .i64 x1.Guest, .string x1.Kind, .int .i64 x1.Value]⟩ 23 (0, 0)) (by kernel_rfl))) ?_
  refine W_run 1 [(1, .pointer (some ⟨b3, 0, none⟩)), (3, .int .i64 1048576), (6, .agg #[.int .i64 x1.Tick, .int .i64 x1.Guest, .string x1.Kind, .int .i64 x1.Value]), (7, .int .i64 1048576)] w4 (by kernel_rfl) ?_
  obtain ⟨r13, hr13, hm⟩ := gx_bind hm
  refine W_call 13 #[.agg #[.int .i64 x1.Tick, .int .i64 x1.Guest, .string x1.Kind, .int .i64 x1.Value], .int .i64 1048576] (by kernel_rfl) (by kernel_rfl) ?_
  refine (c_l_szEvent w4 x1 1048576 hr13).mono ?_
  rintro e_ w14 ⟨rfl, K15⟩
  have M16 := M5.call0 K15
  refine ⟨_, rfl, ?_⟩
  refine W_run 1 [(1, .pointer (some ⟨b3, 0, none⟩)), (3, .int .i64 r13)] w14 (by kernel_rfl) ?_
  refine W_nil ?_
  refine N_then ?_
  refine G_seq ?_
  refine G_seq ?_
  refine G_region ?_
  refine W_run 2 [(1, .pointer (some ⟨b3, 0, none⟩)), (10, .bool (decide (r13 < 0)))] w14 (by kernel_rfl) ?_
  refine W_nil ?_
  refine N_then ?_
  rcases gx_bif hm with ⟨hc17, hm⟩ | ⟨hc17, hm⟩
  · refine G_cond_t (b := (decide (r13 < 0))) hc17 (by kernel_rfl) ?_
    refine G_seq ?_
    refine G_region ?_
    refine W_run 1 [(2, .bool true)] w14 (by kernel_rfl) ?_
    refine W_nil ?_
    refine N_then ?_
    refine G_ret ?_
    refine N_then_ret ?_
    obtain rfl := Option.some.inj hm
    refine N_ret [.bool true] (RVs_cons (RV_tmp (by kernel_rfl)) RVs_nil) ?_
    exact ⟨rfl, M16.pick [] (by kernel_rfl)⟩
  refine G_cond_f (b := (decide (r13 < 0))) hc17 (by kernel_rfl) ?_
  refine G_skip ?_
  refine N_then ?_
  refine G_seq ?_
  refine G_region ?_
  refine W_val (.agg #[.int .i64 x1.Tick, .int .i64 x1.Guest, .string x1.Kind, .int .i64 x1.Value]) w14 (by kernel_rfl) (E_load (e := 23) (fr := (0, 0)) _ _ true 4 b3 0 [.int .i64 x1.Tick, .int .i64 x1.Guest, .string x1.Kind, .int .i64 x1.Value] (.agg #[.int .i64 x1.Tick, .int .i64 x1.Guest, .string x1.Kind, .int .i64 x1.Value]) rfl (by kernel_rfl) (by kernel_rfl) (by kernel_rfl) (M16.blk 0 (b := b3) (o := .cells ⟨[.int .i64 x1.Tick, .int .i64 x1.Guest, .string x1.Kind, .int .i64 x1.Value]⟩ 23 (0, 0)) (by kernel_rfl))) ?_
  obtain ⟨r41, hr41, hm⟩ := gx_bind hm
  refine W_call 15 #[.agg #[.int .i64 x1.Tick, .int .i64 x1.Guest, .string x1.Kind, .int .i64 x1.Value]] (by kernel_rfl) (by kernel_rfl) ?_
  refine (c_l_toEvent w14 x1 hr41).mono ?_
  rintro e_ w42 ⟨rfl, K43⟩
  have M44 := M16.call0 K43
  refine ⟨_, rfl, ?_⟩
  obtain ⟨r191, hr191, hm⟩ := gx_bind hm
  refine W_call 14 #[.agg #[.int .i64 r41.Tick, .int .i64 r41.Guest, .string r41.Kind, .int .i64 r41.Value]] (by kernel_rfl) (by kernel_rfl) ?_
  refine (c_s_IsEvent w42 r41 hr191).mono ?_
  rintro e_ w192 ⟨rfl, K193⟩
  have M194 := M44.call0 K193
  refine ⟨_, rfl, ?_⟩
  refine W_run 1 [(1, .pointer (some ⟨b3, 0, none⟩)), (4, .bool r191)] w192 (by kernel_rfl) ?_
  refine W_nil ?_
  refine N_then ?_
  refine G_seq ?_
  refine G_region ?_
  refine W_val (.agg #[.int .i64 x1.Tick, .int .i64 x1.Guest, .string x1.Kind, .int .i64 x1.Value]) w192 (by kernel_rfl) (E_load (e := 23) (fr := (0, 0)) _ _ true 4 b3 0 [.int .i64 x1.Tick, .int .i64 x1.Guest, .string x1.Kind, .int .i64 x1.Value] (.agg #[.int .i64 x1.Tick, .int .i64 x1.Guest, .string x1.Kind, .int .i64 x1.Value]) rfl (by kernel_rfl) (by kernel_rfl) (by kernel_rfl) (M194.blk 0 (b := b3) (o := .cells ⟨[.int .i64 x1.Tick, .int .i64 x1.Guest, .string x1.Kind, .int .i64 x1.Value]⟩ 23 (0, 0)) (by kernel_rfl))) ?_
  obtain ⟨r195, hr195, hm⟩ := gx_bind hm
  refine W_call 15 #[.agg #[.int .i64 x1.Tick, .int .i64 x1.Guest, .string x1.Kind, .int .i64 x1.Value]] (by kernel_rfl) (by kernel_rfl) ?_
  refine (c_l_toEvent w192 x1 hr195).mono ?_
  rintro e_ w196 ⟨rfl, K197⟩
  have M198 := M194.call0 K197
  refine ⟨_, rfl, ?_⟩
  obtain ⟨r359, hr359, hm⟩ := gx_bind hm
  refine W_call 16 #[.agg #[.int .i64 r195.Tick, .int .i64 r195.Guest, .string r195.Kind, .int .i64 r195.Value]] (by kernel_rfl) (by kernel_rfl) ?_
  refine (c_i_IsEvent w196 r195 hr359).mono ?_
  rintro e_ w360 ⟨rfl, K361⟩
  have M362 := M198.call0 K361
  refine ⟨_, rfl, ?_⟩
  refine W_run 1 [(4, .bool r191), (5, .bool r359)] w360 (by kernel_rfl) ?_
  refine W_nil ?_
  refine N_then ?_
  refine G_seq ?_
  refine G_seq ?_
  refine G_region ?_
  refine W_run 3 [(19, .bool (!(r359 == r191)))] w360 (by kernel_rfl) ?_
  refine W_nil ?_
  refine N_then ?_
  rcases gx_bif hm with ⟨hc363, hm⟩ | ⟨hc363, hm⟩
  · refine G_cond_t (b := (!(r359 == r191))) hc363 (by kernel_rfl) ?_
    refine G_seq ?_
    refine G_region ?_
    refine W_run 1 [(2, .bool false)] w360 (by kernel_rfl) ?_
    refine W_nil ?_
    refine N_then ?_
    refine G_ret ?_
    refine N_then_ret ?_
    obtain rfl := Option.some.inj hm
    refine N_ret [.bool false] (RVs_cons (RV_tmp (by kernel_rfl)) RVs_nil) ?_
    exact ⟨rfl, M362.pick [] (by kernel_rfl)⟩
  refine G_cond_f (b := (!(r359 == r191))) hc363 (by kernel_rfl) ?_
  refine G_skip ?_
  refine N_then ?_
  refine G_seq ?_
  refine G_region ?_
  refine W_run 1 [(2, .bool true)] w360 (by kernel_rfl) ?_
  refine W_nil ?_
  refine N_then ?_
  refine G_ret ?_
  obtain rfl := Option.some.inj hm
  refine N_ret [.bool true] (RVs_cons (RV_tmp (by kernel_rfl)) RVs_nil) ?_
  exact ⟨rfl, M362.pick [] (by kernel_rfl)⟩
theorem c_l_szEventS (w : World) (x369 : List Event) (p371 : Option Addr) (c372 : Nat) (h373 : rdS encEvent w x369 p371 c372) (x374 : Int) {r : Int} (hm : M.l_szEventS x369 x374 = some r) :
    Calls Try.prog 17 #[.slice p371 x369.length c372, .int .i64 x374] w fun e w' => e = .returned (.int .i64 r) ∧ Mem [] w w' [] := by
  unfold M.l_szEventS at hm
  refine C_enter Try.func17 rfl (by kernel_rfl) ?_
  have M0 := Mem.refl [] w
  refine G_seq ?_
  refine G_region ?_
  refine W_run 1 [(0, .slice p371 x369.length c372), (1, .int .i64 x374)] w (by kernel_rfl) ?_
  refine W_nil ?_
  refine N_then ?_
  refine G_seq ?_
  refine G_region ?_
  refine W_run 5 [(0, .slice p371 x369.length c372), (1, .int .i64 (w64 (x374 - (x369.length : Int))))] w (by kernel_rfl) ?_
  refine W_nil ?_
  refine N_then ?_
  refine G_seq ?_
  refine G_seq ?_
  refine G_region ?_
  refine W_run 2 [(0, .slice p371 x369.length c372), (1, .int .i64 (w64 (x374 - (x369.length : Int)))), (11, .bool (decide ((w64 (x374 - (x369.length : Int))) < 0)))] w (by kernel_rfl) ?_
  refine W_nil ?_
  refine N_then ?_
  rcases gx_bif hm with ⟨hc375, hm⟩ | ⟨hc375, hm⟩
  · refine G_cond_t (b := (decide ((w64 (x374 - (x369.length : Int))) < 0))) hc375 (by kernel_rfl) ?_
    refine G_seq ?_
    refine G_region ?_
    refine W_run 1 [(4, .int .i64 (-1))] w (by kernel_rfl) ?_
    refine W_nil ?_
    refine N_then ?_
    refine G_ret ?_
    refine N_then_ret ?_
    obtain rfl := Option.some.inj hm
    refine N_ret [.int .i64 (-1)] (RVs_cons (RV_tmp (by kernel_rfl)) RVs_nil) ?_
    exact ⟨rfl, M0.pick [] (by kernel_rfl)⟩
  refine G_cond_f (b := (decide ((w64 (x374 - (x369.length : Int))) < 0))) hc375 (by kernel_rfl) ?_
  refine G_skip ?_
  refine N_then ?_
  refine G_seq ?_
  refine G_seq ?_
  refine G_region ?_
  refine W_run 1 [(0, .slice p371 x369.length c372), (1, .int .i64 (w64 (x374 - (x369.length : Int)))), (5, .int .i64 0)] w (by kernel_rfl) ?_
  refine W_nil ?_
  refine N_then ?_
  obtain ⟨out397, hw398, hmo399⟩ := gx_bind hm
  refine G_meet (fun a w' => ∃ (o400 : Int), out397 = .inl o400 ∧ Mem [] w w' [] ∧ Sat Try.f17.ntmps [(1, .int .i64 o400)] a) ?_ ?_
  · refine G_block ?_
    refine G_while (σ := Int × Int) (ρ := (Int) ⊕ (Int)) (fun s390 a w' => Mem [] w w' [] ∧ Sat Try.f17.ntmps [(0, .slice p371 x369.length c372), (1, .int .i64 s390.1), (5, .int .i64 s390.2)] a) hw398 (fun a ha => ⟨M0.pick [] (by kernel_rfl), ha.sub (by kernel_rfl)⟩) ?_
    clear hm
    intro s390 x391 hm hout392 a393 w394 ⟨M395, hS396⟩
    refine G_use hS396 ?_
    refine G_seq ?_
    refine G_seq ?_
    refine G_region ?_
    refine W_run 4 [(0, .slice p371 x369.length c372), (1, .int .i64 s390.1), (5, .int .i64 s390.2), (15, .bool (decide (s390.2 < (x369.length : Int))))] w394 (by kernel_rfl) ?_
    refine W_nil ?_
    refine N_then ?_
    rcases gx_bif hm with ⟨hc401, hm⟩ | ⟨hc401, hm⟩
    · refine G_cond_t (b := (decide (s390.2 < (x369.length : Int)))) hc401 (by kernel_rfl) ?_
      refine G_skip ?_
      refine N_then ?_
      refine G_seq ?_
      refine G_block ?_
      refine G_seq ?_
      refine G_region ?_
      refine W_run 2 [(0, .slice p371 x369.length c372), (1, .int .i64 s390.1), (5, .int .i64 s390.2), (18, .slice p371 x369.length c372), (19, .int .i64 s390.2)] w394 (by kernel_rfl) ?_
      obtain ⟨y402, hy402, hm⟩ := gx_bind hm
      refine W_val (elemP p371 (s390.2.toNat * 4)) w394 (by kernel_rfl) (E_index (E := encEvent) _ _ _ x369.length c372 .i64 s390.2 4 (y := y402) rfl (by kernel_rfl) (by kernel_rfl) (by kernel_rfl) (h373.mem0 M395) rfl hy402) ?_
      refine W_val (.agg #[.int .i64 y402.Tick, .int .i64 y402.Guest, .string y402.Kind, .int .i64 y402.Value]) w394 (by kernel_rfl) (E_loadE (E := encEvent) _ _ true 4 s390.2 0 (s390.2.toNat * 4) y402 (.agg #[.int .i64 y402.Tick, .int .i64 y402.Guest, .string y402.Kind, .int .i64 y402.Value]) rfl (by kernel_rfl) (by kernel_rfl) (by kernel_rfl) (h373.mem0 M395) hy402 rfl) ?_
      refine W_run 1 [(0, .slice p371 x369.length c372), (1, .int .i64 s390.1), (5, .int .i64 s390.2), (21, .agg #[.int .i64 y402.Tick, .int .i64 y402.Guest, .string y402.Kind, .int .i64 y402.Value]), (22, .int .i64 s390.1)] w394 (by kernel_rfl) ?_
      obtain ⟨r403, hr403, hm⟩ := gx_bind hm
      refine W_call 13 #[.agg #[.int .i64 y402.Tick, .int .i64 y402.Guest, .string y402.Kind, .int .i64 y402.Value], .int .i64 s390.1] (by kernel_rfl) (by kernel_rfl) ?_
      refine (c_l_szEvent w394 y402 s390.1 hr403).mono ?_
      rintro e_ w404 ⟨rfl, K405⟩
      have M406 := M395.call0 K405
      refine ⟨_, rfl, ?_⟩
      refine W_run 1 [(0, .slice p371 x369.length c372), (1, .int .i64 r403), (5, .int .i64 s390.2)] w404 (by kernel_rfl) ?_
      refine W_nil ?_
      refine N_then ?_
      refine G_seq ?_
      refine G_region ?_
      refine W_run 2 [(0, .slice p371 x369.length c372), (1, .int .i64 r403), (5, .int .i64 s390.2), (25, .bool (decide (r403 < 0)))] w404 (by kernel_rfl) ?_
      refine W_nil ?_
      refine N_then ?_
      rcases gx_bif hm with ⟨hc407, hm⟩ | ⟨hc407, hm⟩
      · refine G_cond_t (b := (decide (r403 < 0))) hc407 (by kernel_rfl) ?_
        refine G_seq ?_
        refine G_region ?_
        refine W_run 1 [(4, .int .i64 (-1))] w404 (by kernel_rfl) ?_
        refine W_nil ?_
        refine N_then ?_
        refine G_ret ?_
        refine N_block_ret ?_
        refine N_then_ret ?_
        refine N_then_ret ?_
        obtain rfl := Option.some.inj hm
        obtain rfl := hout392 _ rfl
        have hm := hmo399; simp only [Sum.elim_inr] at hm
        refine N_block_ret ?_
        refine N_meet_ret ?_
        refine N_then_ret ?_
        obtain rfl := Option.some.inj hm
        refine N_ret [.int .i64 (-1)] (RVs_cons (RV_tmp (by kernel_rfl)) RVs_nil) ?_
        exact ⟨rfl, M406.pick [] (by kernel_rfl)⟩
      refine G_cond_f (b := (decide (r403 < 0))) hc407 (by kernel_rfl) ?_
      refine G_skip ?_
      refine N_block ?_
      refine N_then ?_
      refine G_region ?_
      refine W_run 3 [(0, .slice p371 x369.length c372), (1, .int .i64 r403), (5, .int .i64 (w64 (s390.2 + 1)))] w404 (by kernel_rfl) ?_
      refine W_nil ?_
      obtain rfl := Option.some.inj hm
      exact N_loop fun a ha => ⟨_, rfl, M406.pick [] (by kernel_rfl), ha.sub (by kernel_rfl)⟩
    refine G_cond_f (b := (decide (s390.2 < (x369.length : Int)))) hc401 (by kernel_rfl) ?_
    refine G_exit ?_
    refine N_then_exit ?_
    refine N_then_exit ?_
    refine N_block_eq ?_
    obtain rfl := Option.some.inj hm
    obtain rfl := hout392 _ rfl
    exact N_meet fun a ha => ⟨_, rfl, M395.pick [] (by kernel_rfl), ha.sub (by kernel_rfl)⟩
  intro a408 w409 ⟨o400, hout_, M410, hS411⟩
  refine N_use hS411 ?_
  subst hout_
  have hm := hmo399; simp only [Sum.elim_inl] at hm
  refine N_then ?_
  refine G_seq ?_
  refine G_region ?_
  refine W_run 2 [(4, .int .i64 o400)] w409 (by kernel_rfl) ?_
  refine W_nil ?_
  refine N_then ?_
  refine G_ret ?_
  obtain rfl := Option.some.inj hm
  refine N_ret [.int .i64 o400] (RVs_cons (RV_tmp (by kernel_rfl)) RVs_nil) ?_
  exact ⟨rfl, M410.pick [] (by kernel_rfl)⟩
theorem c_l_toEventS (w : World) (x417 : List Event) (p419 : Option Addr) (c420 : Nat) (h421 : rdS encEvent w x417 p419 c420) {r : (List Event)} (hm : M.l_toEventS x417 = some r) :
    Calls Try.prog 19 #[.slice p419 x417.length c420] w fun e w' => ∃ (p423 : Option Addr) (c424 : Nat) (sg425 : Seg), e = .returned (.slice p423 r.length c424) ∧ ownS encEvent r p423 c424 sg425 ∧ Mem [] w w' [sg425] := by
  unfold M.l_toEventS at hm
  refine C_enter Try.func19 rfl (by kernel_rfl) ?_
  have M0 := Mem.refl [] w
  refine G_seq ?_
  refine G_region ?_
  refine W_run 1 [(0, .slice p419 x417.length c420)] w (by kernel_rfl) ?_
  refine W_nil ?_
  refine N_then ?_
  refine G_seq ?_
  refine G_region ?_
  refine W_run 2 [(0, .slice p419 x417.length c420), (6, .int .i64 (x417.length : Int))] w (by kernel_rfl) ?_
  obtain ⟨mk427, hmk427, hm⟩ := gx_bind hm
  refine W_make (E := encEvent) _ _ _ (x417.length : Int) 40 [.int .i64 0, .int .i64 0, .string ByteArray.empty, .int .i64 0] ((⟨0, 0, ByteArray.empty, 0⟩ : Event) : Event) M0 (by kernel_rfl) rfl (by kernel_rfl) (by kernel_rfl) (by kernel_rfl) (by kernel_rfl) (by kernel_rfl) hmk427 ?_
  intro p428 c429 sg430 w431 ho432 M433
  refine W_run 1 [(0, .slice p419 x417.length c420), (3, .slice p428 mk427.length c429)] w431 (by kernel_rfl) ?_
  refine W_nil ?_
  refine N_then ?_
  refine G_seq ?_
  refine G_seq ?_
  refine G_region ?_
  refine W_run 1 [(0, .slice p419 x417.length c420), (3, .slice p428 mk427.length c429), (4, .int .i64 0)] w431 (by kernel_rfl) ?_
  refine W_nil ?_
  refine N_then ?_
  obtain ⟨out466, hw467, hmo468⟩ := gx_bind hm
  refine G_meet (fun a w' => ∃ (sg472 : Seg), ownS encEvent out466 p428 c429 sg472 ∧ Mem [] w w' [sg472] ∧ Sat Try.f19.ntmps [(3, .slice p428 out466.length c429)] a) ?_ ?_
  · refine G_block ?_
    refine G_while (σ := Int × List Event) (ρ := List Event) (fun s459 a w' => ∃ (sg469 : Seg), ownS encEvent s459.2 p428 c429 sg469 ∧ Mem [] w w' [sg469] ∧ Sat Try.f19.ntmps [(0, .slice p419 x417.length c420), (3, .slice p428 s459.2.length c429), (4, .int .i64 s459.1)] a) hw467 (fun a ha => ⟨sg430, ho432, M433.pick [0] (by kernel_rfl), ha.sub (by kernel_rfl)⟩) ?_
    clear hm
    intro s459 x460 hm hout461 a462 w463 ⟨sg469, ho470, M464, hS465⟩
    refine G_use hS465 ?_
    refine G_seq ?_
    refine G_seq ?_
    refine G_region ?_
    refine W_run 4 [(0, .slice p419 x417.length c420), (3, .slice p428 s459.2.length c429), (4, .int .i64 s459.1), (11, .bool (decide (s459.1 < (x417.length : Int))))] w463 (by kernel_rfl) ?_
    refine W_nil ?_
    refine N_then ?_
    rcases gx_bif hm with ⟨hc474, hm⟩ | ⟨hc474, hm⟩
    · refine G_cond_t (b := (decide (s459.1 < (x417.length : Int)))) hc474 (by kernel_rfl) ?_
      refine G_skip ?_
      refine N_then ?_
      refine G_seq ?_
      refine G_block ?_
      refine G_region ?_
      refine W_run 4 [(0, .slice p419 x417.length c420), (3, .slice p428 s459.2.length c429), (4, .int .i64 s459.1), (14, .slice p428 s459.2.length c429), (15, .int .i64 s459.1), (16, .slice p419 x417.length c420), (17, .int .i64 s459.1)] w463 (by kernel_rfl) ?_
      obtain ⟨y475, hy475, hm⟩ := gx_bind hm
      refine W_val (elemP p419 (s459.1.toNat * 4)) w463 (by kernel_rfl) (E_index (E := encEvent) _ _ _ x417.length c420 .i64 s459.1 4 (y := y475) rfl (by kernel_rfl) (by kernel_rfl) (by kernel_rfl) (h421.mem0 M464) rfl hy475) ?_
      refine W_val (.agg #[.int .i64 y475.Tick, .int .i64 y475.Guest, .string y475.Kind, .int .i64 y475.Value]) w463 (by kernel_rfl) (E_loadE (E := encEvent) _ _ true 4 s459.1 0 (s459.1.toNat * 4) y475 (.agg #[.int .i64 y475.Tick, .int .i64 y475.Guest, .string y475.Kind, .int .i64 y475.Value]) rfl (by kernel_rfl) (by kernel_rfl) (by kernel_rfl) (h421.mem0 M464) hy475 rfl) ?_
      obtain ⟨r476, hr476, hm⟩ := gx_bind hm
      refine W_call 15 #[.agg #[.int .i64 y475.Tick, .int .i64 y475.Guest, .string y475.Kind, .int .i64 y475.Value]] (by kernel_rfl) (by kernel_rfl) ?_
      refine (c_l_toEvent w463 y475 hr476).mono ?_
      rintro e_ w477 ⟨rfl, K478⟩
      have M479 := M464.call0 K478
      refine ⟨_, rfl, ?_⟩
      obtain ⟨y480, hy480, hm⟩ := gx_bind hm
      refine W_val (elemP p428 (s459.1.toNat * 4)) w477 (by kernel_rfl) (E_index (E := encEvent) _ _ _ s459.2.length c429 .i64 s459.1 4 (y := y480) rfl (by kernel_rfl) (by kernel_rfl) (by kernel_rfl) (ho470.rd M479 0 (by kernel_rfl)) rfl hy480) ?_
      refine W_storeE (E := encEvent) _ _ _ true 4 s459.1.toNat 0 (s459.1.toNat * 4) y480 r476 (.agg #[.int .i64 r476.Tick, .int .i64 r476.Guest, .string r476.Kind, .int .i64 r476.Value]) 0 M479 ho470 (by kernel_rfl) (by kernel_rfl) rfl (by kernel_rfl) (by kernel_rfl) (by kernel_rfl) (by kernel_rfl) (by kernel_rfl) (by kernel_rfl) (by kernel_rfl) (gxIdx_spec hy480).2 rfl ?_
      intro w481 sg483 ho484 M482
      refine W_conv 3 (.slice p428 s459.2.length c429) (.slice p428 (s459.2.set s459.1.toNat r476).length c429) (by kernel_rfl) (by rw [@List.length_set _ s459.2 s459.1.toNat r476]) ?_
      refine W_conv 14 (.slice p428 s459.2.length c429) (.slice p428 (s459.2.set s459.1.toNat r476).length c429) (by kernel_rfl) (by rw [@List.length_set _ s459.2 s459.1.toNat r476]) ?_
      refine W_nil ?_
      refine N_block ?_
      refine N_then ?_
      refine G_region ?_
      refine W_run 3 [(0, .slice p419 x417.length c420), (3, .slice p428 (s459.2.set s459.1.toNat r476).length c429), (4, .int .i64 (w64 (s459.1 + 1)))] w481 (by kernel_rfl) ?_
      refine W_nil ?_
      obtain rfl := Option.some.inj hm
      exact N_loop fun a ha => ⟨_, rfl, sg483, ho484, M482.pick [0] (by kernel_rfl), ha.sub (by kernel_rfl)⟩
    refine G_cond_f (b := (decide (s459.1 < (x417.length : Int)))) hc474 (by kernel_rfl) ?_
    refine G_exit ?_
    refine N_then_exit ?_
    refine N_then_exit ?_
    refine N_block_eq ?_
    obtain rfl := Option.some.inj hm
    obtain rfl := hout461 _ rfl
    exact N_meet fun a ha => ⟨sg469, ho470, M464.pick [0] (by kernel_rfl), ha.sub (by kernel_rfl)⟩
  intro a485 w486 ⟨sg472, ho473, M487, hS488⟩
  refine N_use hS488 ?_
  have hm := hmo468
  refine N_then ?_
  refine G_seq ?_
  refine G_region ?_
  refine W_run 2 [(2, .slice p428 out466.length c429)] w486 (by kernel_rfl) ?_
  refine W_nil ?_
  refine N_then ?_
  refine G_ret ?_
  obtain rfl := Option.some.inj hm
  refine N_ret [.slice p428 out466.length c429] (RVs_cons (RV_tmp (by kernel_rfl)) RVs_nil) ?_
  exact ⟨p428, c429, sg472, rfl, ho473, M487.pick [0] (by kernel_rfl)⟩
theorem c_s_l22Good (w : World) (x503 : List Event) (p505 : Option Addr) (c506 : Nat) (h507 : rdS encEvent w x503 p505 c506) {r : Bool} (hm : M.s_l22Good x503 = some r) :
    Calls Try.prog 56 #[.slice p505 x503.length c506] w fun e w' => e = .returned (.bool r) ∧ Mem [] w w' [] := by
  unfold M.s_l22Good at hm
  refine C_enter Try.func56 rfl (by kernel_rfl) ?_
  have M0 := Mem.refl [] w
  refine G_seq ?_
  refine G_region ?_
  refine W_run 1 [(0, .slice p505 x503.length c506)] w (by kernel_rfl) ?_
  refine W_nil ?_
  refine N_then ?_
  refine G_seq ?_
  refine G_seq ?_
  refine G_region ?_
  refine W_run 1 [(0, .slice p505 x503.length c506), (3, .int .i64 0)] w (by kernel_rfl) ?_
  refine W_nil ?_
  refine N_then ?_
  obtain ⟨out593, hw594, hmo595⟩ := gx_bind hm
  refine G_meet (fun a w' => ∃ (o596 : Unit), out593 = .inl o596 ∧ Mem [] w w' [] ∧ Sat Try.f56.ntmps [(0, .slice p505 x503.length c506)] a) ?_ ?_
  · refine G_block ?_
    refine G_while (σ := Int) (ρ := (Unit) ⊕ (Bool)) (fun s586 a w' => Mem [] w w' [] ∧ Sat Try.f56.ntmps [(0, .slice p505 x503.length c506), (3, .int .i64 s586)] a) hw594 (fun a ha => ⟨M0.pick [] (by kernel_rfl), ha.sub (by kernel_rfl)⟩) ?_
    clear hm
    intro s586 x587 hm hout588 a589 w590 ⟨M591, hS592⟩
    refine G_use hS592 ?_
    refine G_seq ?_
    refine G_seq ?_
    refine G_region ?_
    refine W_run 4 [(0, .slice p505 x503.length c506), (3, .int .i64 s586), (7, .bool (decide (s586 < (x503.length : Int))))] w590 (by kernel_rfl) ?_
    refine W_nil ?_
    refine N_then ?_
    rcases gx_bif hm with ⟨hc597, hm⟩ | ⟨hc597, hm⟩
    · refine G_cond_t (b := (decide (s586 < (x503.length : Int)))) hc597 (by kernel_rfl) ?_
      refine G_skip ?_
      refine N_then ?_
      refine G_seq ?_
      refine G_block ?_
      refine G_seq ?_
      obtain ⟨o613, ho614, hm615⟩ := gx_bind hm
      refine G_meet (fun a w' => Mem [] w w' [] ∧ Sat Try.f56.ntmps [(0, .slice p505 x503.length c506), (3, .int .i64 s586), (33, .bool o613)] a) ?_ ?_
      · have hm := ho614
        refine G_quiet (by kernel_rfl) (by kernel_rfl) M591 ?_
        refine Z_runs [.slice p505 x503.length c506, .int .i64 s586] [(0, .slice p505 x503.length c506), (3, .int .i64 s586), (10, .slice p505 x503.length c506), (11, .int .i64 s586)] (fun w_ => by kernel_rfl) (by kernel_rfl) ?_
        obtain ⟨y616, hy616, hm⟩ := gx_bind hm
        refine Z_val (elemP p505 (s586.toNat * 4)) (by kernel_rfl) (fun w_ M_ => (E_index (E := encEvent) _ _ _ x503.length c506 .i64 s586 4 (y := y616) rfl (by kernel_rfl) (by kernel_rfl) (by kernel_rfl) (h507.mem0 M_) rfl hy616)) ?_
        refine Z_val (.agg #[.int .i64 y616.Tick, .int .i64 y616.Guest, .string y616.Kind, .int .i64 y616.Value]) (by kernel_rfl) (fun w_ M_ => (E_loadE (E := encEvent) _ _ true 4 s586 0 (s586.toNat * 4) y616 (.agg #[.int .i64 y616.Tick, .int .i64 y616.Guest, .string y616.Kind, .int .i64 y616.Value]) rfl (by kernel_rfl) (by kernel_rfl) (by kernel_rfl) (h507.mem0 M_) hy616 rfl)) ?_
        obtain ⟨r617, hr617, hm⟩ := gx_bind hm
        refine Z_call 51 #[.agg #[.int .i64 y616.Tick, .int .i64 y616.Guest, .string y616.Kind, .int .i64 y616.Value]] (.bool r617) (by kernel_rfl) (fun w_ => by kernel_rfl) (fun w_ M_ => (c_s_l22One w_ y616 hr617).mono fun e w2_ h_ => ⟨h_.1, M_.call0 h_.2⟩) ?_
        refine Z_runs [.bool (!r617), .bool (!r617)] [(0, .slice p505 x503.length c506), (3, .int .i64 s586), (16, .bool (!r617))] (fun w_ => by kernel_rfl) (by kernel_rfl) ?_
        rcases gx_bif hm with ⟨hc621, hm⟩ | ⟨hc621, hm⟩
        · refine Z_known 16 true (by kernel_rfl) hc621 ?_
          refine Z_runs [undef, undef, undef, undef, undef, undef, undef, undef, undef, undef, undef, undef, undef, undef, undef, undef, .bool true] [(0, .slice p505 x503.length c506), (3, .int .i64 s586), (33, .bool true)] (fun w_ => by kernel_rfl) (by kernel_rfl) ?_
          refine Z_end fun w622 M623 => ?_
          obtain rfl := Option.some.inj hm
          exact N_meet fun a ha => ⟨M623.pick [] (by kernel_rfl), ha.sub (by kernel_rfl)⟩
        refine Z_known 16 false (by kernel_rfl) hc621 ?_
        refine Z_runs [.int .i64 s586, .bool (decide (s586 > 0)), .bool (decide (s586 > 0))] [(0, .slice p505 x503.length c506), (3, .int .i64 s586), (16, .bool false), (19, .bool (decide (s586 > 0)))] (fun w_ => by kernel_rfl) (by kernel_rfl) ?_
        rcases gx_bif hm with ⟨hc624, hm⟩ | ⟨hc624, hm⟩
        · refine Z_known 19 true (by kernel_rfl) hc624 ?_
          refine Z_runs [.slice p505 x503.length c506, .int .i64 s586, .int .i64 (w64 (s586 - 1))] [(0, .slice p505 x503.length c506), (3, .int .i64 s586), (16, .bool false), (19, .bool true), (20, .slice p505 x503.length c506), (22, .int .i64 (w64 (s586 - 1)))] (fun w_ => by kernel_rfl) (by kernel_rfl) ?_
          obtain ⟨y625, hy625, hm⟩ := gx_bind hm
          refine Z_val (elemP p505 ((w64 (s586 - 1)).toNat * 4)) (by kernel_rfl) (fun w_ M_ => (E_index (E := encEvent) _ _ _ x503.length c506 .i64 (w64 (s586 - 1)) 4 (y := y625) rfl (by kernel_rfl) (by kernel_rfl) (by kernel_rfl) (h507.mem0 M_) rfl hy625)) ?_
          refine Z_val (elemP p505 ((w64 (s586 - 1)).toNat * 4 + 0)) (by kernel_rfl) (fun w_ M_ => (E_fieldE (E := encEvent) _ _ 0 ((w64 (s586 - 1)).toNat * 4) 0 rfl (by kernel_rfl) (by kernel_rfl) (h507.mem0 M_) hy625)) ?_
          refine Z_val (.int .i64 y625.Tick) (by kernel_rfl) (fun w_ M_ => (E_loadE (E := encEvent) _ _ false 1 (w64 (s586 - 1)) 0 ((w64 (s586 - 1)).toNat * 4 + 0) y625 (.int .i64 y625.Tick) rfl (by kernel_rfl) (by kernel_rfl) (by kernel_rfl) (h507.mem0 M_) hy625 rfl)) ?_
          refine Z_runs [.slice p505 x503.length c506, .int .i64 s586] [(0, .slice p505 x503.length c506), (3, .int .i64 s586), (16, .bool false), (19, .bool true), (25, .int .i64 y625.Tick), (26, .slice p505 x503.length c506), (27, .int .i64 s586)] (fun w_ => by kernel_rfl) (by kernel_rfl) ?_
          obtain ⟨y626, hy626, hm⟩ := gx_bind hm
          refine Z_val (elemP p505 (s586.toNat * 4)) (by kernel_rfl) (fun w_ M_ => (E_index (E := encEvent) _ _ _ x503.length c506 .i64 s586 4 (y := y626) rfl (by kernel_rfl) (by kernel_rfl) (by kernel_rfl) (h507.mem0 M_) rfl hy626)) ?_
          refine Z_val (elemP p505 (s586.toNat * 4 + 0)) (by kernel_rfl) (fun w_ M_ => (E_fieldE (E := encEvent) _ _ 0 (s586.toNat * 4) 0 rfl (by kernel_rfl) (by kernel_rfl) (h507.mem0 M_) hy626)) ?_
          refine Z_val (.int .i64 y626.Tick) (by kernel_rfl) (fun w_ M_ => (E_loadE (E := encEvent) _ _ false 1 s586 0 (s586.toNat * 4 + 0) y626 (.int .i64 y626.Tick) rfl (by kernel_rfl) (by kernel_rfl) (by kernel_rfl) (h507.mem0 M_) hy626 rfl)) ?_
          refine Z_runs [.bool (decide (y625.Tick > y626.Tick)), .bool (decide (y625.Tick > y626.Tick)), .bool (decide (y625.Tick > y626.Tick))] [(0, .slice p505 x503.length c506), (3, .int .i64 s586), (33, .bool (decide (y625.Tick > y626.Tick)))] (fun w_ => by kernel_rfl) (by kernel_rfl) ?_
          refine Z_end fun w627 M628 => ?_
          obtain rfl := Option.some.inj hm
          exact N_meet fun a ha => ⟨M628.pick [] (by kernel_rfl), ha.sub (by kernel_rfl)⟩
        refine Z_known 19 false (by kernel_rfl) hc624 ?_
        refine Z_runs [undef, undef, undef, undef, undef, undef, undef, undef, undef, undef, undef, undef, .bool false, .bool false] [(0, .slice p505 x503.length c506), (3, .int .i64 s586), (33, .bool false)] (fun w_ => by kernel_rfl) (by kernel_rfl) ?_
        refine Z_end fun w629 M630 => ?_
        obtain rfl := Option.some.inj hm
        exact N_meet fun a ha => ⟨M630.pick [] (by kernel_rfl), ha.sub (by kernel_rfl)⟩
      intro a633 w631 ⟨M632, hS634⟩
      refine N_use hS634 ?_
      have hm := hm615
      refine N_then ?_
      rcases gx_bif hm with ⟨hc635, hm⟩ | ⟨hc635, hm⟩
      · refine G_cond_t (b := o613) hc635 (by kernel_rfl) ?_
        refine G_seq ?_
        refine G_region ?_
        refine W_run 1 [(2, .bool false)] w631 (by kernel_rfl) ?_
        refine W_nil ?_
        refine N_then ?_
        refine G_ret ?_
        refine N_block_ret ?_
        refine N_then_ret ?_
        refine N_then_ret ?_
        obtain rfl := Option.some.inj hm
        obtain rfl := hout588 _ rfl
        have hm := hmo595; simp only [Sum.elim_inr] at hm
        refine N_block_ret ?_
        refine N_meet_ret ?_
        refine N_then_ret ?_
        obtain rfl := Option.some.inj hm
        refine N_ret [.bool false] (RVs_cons (RV_tmp (by kernel_rfl)) RVs_nil) ?_
        exact ⟨rfl, M632.pick [] (by kernel_rfl)⟩
      refine G_cond_f (b := o613) hc635 (by kernel_rfl) ?_
      refine G_skip ?_
      refine N_block ?_
      refine N_then ?_
      refine G_region ?_
      refine W_run 3 [(0, .slice p505 x503.length c506), (3, .int .i64 (w64 (s586 + 1)))] w631 (by kernel_rfl) ?_
      refine W_nil ?_
      obtain rfl := Option.some.inj hm
      exact N_loop fun a ha => ⟨_, rfl, M632.pick [] (by kernel_rfl), ha.sub (by kernel_rfl)⟩
    refine G_cond_f (b := (decide (s586 < (x503.length : Int)))) hc597 (by kernel_rfl) ?_
    refine G_exit ?_
    refine N_then_exit ?_
    refine N_then_exit ?_
    refine N_block_eq ?_
    obtain rfl := Option.some.inj hm
    obtain rfl := hout588 _ rfl
    exact N_meet fun a ha => ⟨_, rfl, M591.pick [] (by kernel_rfl), ha.sub (by kernel_rfl)⟩
  intro a636 w637 ⟨o596, hout_, M638, hS639⟩
  refine N_use hS639 ?_
  subst hout_
  have hm := hmo595; simp only [Sum.elim_inl] at hm
  refine N_then ?_
  refine G_seq ?_
  refine G_region ?_
  refine W_run 4 [(2, .bool (decide ((x503.length : Int) ≤ 30)))] w637 (by kernel_rfl) ?_
  refine W_nil ?_
  refine N_then ?_
  refine G_ret ?_
  obtain rfl := Option.some.inj hm
  refine N_ret [.bool (decide ((x503.length : Int) ≤ 30))] (RVs_cons (RV_tmp (by kernel_rfl)) RVs_nil) ?_
  exact ⟨rfl, M638.pick [] (by kernel_rfl)⟩
theorem c_s_IsRecord (w : World) (x498 : List Event) (p500 : Option Addr) (c501 : Nat) (h502 : rdS encEvent w x498 p500 c501) {r : Bool} (hm : M.s_IsRecord x498 = some r) :
    Calls Try.prog 18 #[.slice p500 x498.length c501] w fun e w' => e = .returned (.bool r) ∧ Mem [] w w' [] := by
  unfold M.s_IsRecord at hm
  refine C_enter Try.func18 rfl (by kernel_rfl) ?_
  have M0 := Mem.refl [] w
  refine G_seq ?_
  refine G_region ?_
  refine W_run 1 [(0, .slice p500 x498.length c501)] w (by kernel_rfl) ?_
  refine W_nil ?_
  refine N_then ?_
  refine G_seq ?_
  refine G_region ?_
  refine W_run 1 [(3, .slice p500 x498.length c501)] w (by kernel_rfl) ?_
  obtain ⟨r640, hr640, hm⟩ := gx_bind hm
  refine W_call 56 #[.slice p500 x498.length c501] (by kernel_rfl) (by kernel_rfl) ?_
  refine (c_s_l22Good w x498 p500 c501 (h502.mem0 M0) hr640).mono ?_
  rintro e_ w641 ⟨rfl, K642⟩
  have M643 := M0.call0 K642
  refine ⟨_, rfl, ?_⟩
  refine W_run 1 [(2, .bool r640)] w641 (by kernel_rfl) ?_
  refine W_nil ?_
  refine N_then ?_
  refine G_ret ?_
  obtain rfl := Option.some.inj hm
  refine N_ret [.bool r640] (RVs_cons (RV_tmp (by kernel_rfl)) RVs_nil) ?_
  exact ⟨rfl, M643.pick [] (by kernel_rfl)⟩
theorem c_i_IsRecord (w : World) (x657 : List Event) (p659 : Option Addr) (c660 : Nat) (h661 : rdS encEvent w x657 p659 c660) {r : Bool} (hm : M.i_IsRecord x657 = some r) :
    Calls Try.prog 20 #[.slice p659 x657.length c660] w fun e w' => e = .returned (.bool r) ∧ Mem [] w w' [] := by
  unfold M.i_IsRecord at hm
  refine C_enter Try.func20 rfl (by kernel_rfl) ?_
  have M0 := Mem.refl [] w
  refine G_seq ?_
  refine G_region ?_
  refine W_run 1 [(0, .slice p659 x657.length c660)] w (by kernel_rfl) ?_
  refine W_nil ?_
  refine N_then ?_
  refine G_seq ?_
  refine G_seq ?_
  refine G_region ?_
  refine W_run 3 [(0, .slice p659 x657.length c660), (5, .slice p659 x657.length c660), (6, .int .i64 (x657.length : Int)), (7, .int .i64 0)] w (by kernel_rfl) ?_
  refine W_nil ?_
  refine N_then ?_
  obtain ⟨out753, hw754, hmo755⟩ := gx_bind hm
  refine G_meet (fun a w' => ∃ (o756 : Unit), out753 = .inl o756 ∧ Mem [] w w' [] ∧ Sat Try.f20.ntmps [(0, .slice p659 x657.length c660)] a) ?_ ?_
  · refine G_block ?_
    refine G_while (σ := Int) (ρ := (Unit) ⊕ (Bool)) (fun s746 a w' => Mem [] w w' [] ∧ Sat Try.f20.ntmps [(0, .slice p659 x657.length c660), (5, .slice p659 x657.length c660), (6, .int .i64 (x657.length : Int)), (7, .int .i64 s746)] a) hw754 (fun a ha => ⟨M0.pick [] (by kernel_rfl), ha.sub (by kernel_rfl)⟩) ?_
    clear hm
    intro s746 x747 hm hout748 a749 w750 ⟨M751, hS752⟩
    refine G_use hS752 ?_
    refine G_seq ?_
    refine G_region ?_
    refine W_run 1 [(0, .slice p659 x657.length c660), (5, .slice p659 x657.length c660), (6, .int .i64 (x657.length : Int)), (7, .int .i64 s746), (8, .bool (decide (s746 < (x657.length : Int))))] w750 (by kernel_rfl) ?_
    refine W_nil ?_
    refine N_then ?_
    refine G_seq ?_
    rcases gx_bif hm with ⟨hc757, hm⟩ | ⟨hc757, hm⟩
    · refine G_cond_t (b := (decide (s746 < (x657.length : Int)))) hc757 (by kernel_rfl) ?_
      refine G_skip ?_
      refine N_then ?_
      refine G_seq ?_
      refine G_block ?_
      refine G_seq ?_
      refine G_region ?_
      refine W_run 1 [(0, .slice p659 x657.length c660), (5, .slice p659 x657.length c660), (6, .int .i64 (x657.length : Int)), (7, .int .i64 s746), (9, .int .i64 s746)] w750 (by kernel_rfl) ?_
      obtain ⟨y758, hy758, hm⟩ := gx_bind hm
      refine W_val (elemP p659 (s746.toNat * 4)) w750 (by kernel_rfl) (E_index (E := encEvent) _ _ _ x657.length c660 .i64 s746 4 (y := y758) rfl (by kernel_rfl) (by kernel_rfl) (by kernel_rfl) (h661.mem0 M751) rfl hy758) ?_
      refine W_val (.agg #[.int .i64 y758.Tick, .int .i64 y758.Guest, .string y758.Kind, .int .i64 y758.Value]) w750 (by kernel_rfl) (E_loadE (E := encEvent) _ _ true 4 s746 0 (s746.toNat * 4) y758 (.agg #[.int .i64 y758.Tick, .int .i64 y758.Guest, .string y758.Kind, .int .i64 y758.Value]) rfl (by kernel_rfl) (by kernel_rfl) (by kernel_rfl) (h661.mem0 M751) hy758 rfl) ?_
      refine W_new (fun b => .pointer (some ⟨b, 0, none⟩)) (.cells ⟨[.int .i64 0, .int .i64 0, .string ByteArray.empty, .int .i64 0]⟩ 26 (0, 0)) M751 rfl (by kernel_rfl) (by kernel_rfl) ?_
      intro b760 w761 M762
      refine W_run 1 [(0, .slice p659 x657.length c660), (3, .int .i64 s746), (4, .pointer (some ⟨b760, 0, none⟩)), (5, .slice p659 x657.length c660), (6, .int .i64 (x657.length : Int)), (7, .int .i64 s746), (11, .agg #[.int .i64 y758.Tick, .int .i64 y758.Guest, .string y758.Kind, .int .i64 y758.Value])] w761 (by kernel_rfl) ?_
      refine W_store _ _ _ true 4 b760 0 [.int .i64 0, .int .i64 0, .string ByteArray.empty, .int .i64 0] 26 (.agg #[.int .i64 y758.Tick, .int .i64 y758.Guest, .string y758.Kind, .int .i64 y758.Value]) 0 [.int .i64 y758.Tick, .int .i64 y758.Guest, .string y758.Kind, .int .i64 y758.Value] M762 (by kernel_rfl) rfl (by kernel_rfl) (by kernel_rfl) (by kernel_rfl) (by kernel_rfl) (by kernel_rfl) (by kernel_rfl) (by kernel_rfl) (by kernel_rfl) ?_
      intro w763 M764
      refine W_nil ?_
      refine N_then ?_
      refine G_seq ?_
      obtain ⟨o778, ho779, hm780⟩ := gx_bind hm
      refine G_meet (fun a w' => Mem [] w w' [] ∧ Sat Try.f20.ntmps [(0, .slice p659 x657.length c660), (5, .slice p659 x657.length c660), (6, .int .i64 (x657.length : Int)), (7, .int .i64 s746), (29, .bool o778)] a) ?_ ?_
      · have hm := ho779
        refine G_quiet (by kernel_rfl) (by kernel_rfl) M764 ?_
        refine Z_val (.agg #[.int .i64 y758.Tick, .int .i64 y758.Guest, .string y758.Kind, .int .i64 y758.Value]) (by kernel_rfl) (fun w_ M_ => (E_load (e := 26) (fr := (0, 0)) _ _ true 4 b760 0 [.int .i64 y758.Tick, .int .i64 y758.Guest, .string y758.Kind, .int .i64 y758.Value] (.agg #[.int .i64 y758.Tick, .int .i64 y758.Guest, .string y758.Kind, .int .i64 y758.Value]) rfl (by kernel_rfl) (by kernel_rfl) (by kernel_rfl) (M_.blk 0 (b := b760) (o := .cells ⟨[.int .i64 y758.Tick, .int .i64 y758.Guest, .string y758.Kind, .int .i64 y758.Value]⟩ 26 (0, 0)) (by kernel_rfl)))) ?_
        obtain ⟨r781, hr781, hm⟩ := gx_bind hm
        refine Z_call 16 #[.agg #[.int .i64 y758.Tick, .int .i64 y758.Guest, .string y758.Kind, .int .i64 y758.Value]] (.bool r781) (by kernel_rfl) (fun w_ => by kernel_rfl) (fun w_ M_ => (c_i_IsEvent w_ y758 hr781).mono fun e w2_ h_ => ⟨h_.1, M_.call0 h_.2⟩) ?_
        refine Z_runs [.bool (!r781), .bool (!r781)] [(0, .slice p659 x657.length c660), (3, .int .i64 s746), (4, .pointer (some ⟨b760, 0, none⟩)), (5, .slice p659 x657.length c660), (6, .int .i64 (x657.length : Int)), (7, .int .i64 s746), (15, .bool (!r781))] (fun w_ => by kernel_rfl) (by kernel_rfl) ?_
        rcases gx_bif hm with ⟨hc785, hm⟩ | ⟨hc785, hm⟩
        · refine Z_known 15 true (by kernel_rfl) hc785 ?_
          refine Z_runs [undef, undef, undef, undef, undef, undef, undef, undef, undef, undef, undef, undef, undef, .bool true] [(0, .slice p659 x657.length c660), (5, .slice p659 x657.length c660), (6, .int .i64 (x657.length : Int)), (7, .int .i64 s746), (29, .bool true)] (fun w_ => by kernel_rfl) (by kernel_rfl) ?_
          refine Z_end fun w786 M787 => ?_
          obtain rfl := Option.some.inj hm
          exact N_meet fun a ha => ⟨M787.pick [] (by kernel_rfl), ha.sub (by kernel_rfl)⟩
        refine Z_known 15 false (by kernel_rfl) hc785 ?_
        refine Z_runs [.int .i64 s746, .bool (decide (s746 > 0)), .bool (decide (s746 > 0))] [(0, .slice p659 x657.length c660), (3, .int .i64 s746), (4, .pointer (some ⟨b760, 0, none⟩)), (5, .slice p659 x657.length c660), (6, .int .i64 (x657.length : Int)), (7, .int .i64 s746), (15, .bool false), (18, .bool (decide (s746 > 0)))] (fun w_ => by kernel_rfl) (by kernel_rfl) ?_
        rcases gx_bif hm with ⟨hc788, hm⟩ | ⟨hc788, hm⟩
        · refine Z_known 18 true (by kernel_rfl) hc788 ?_
          refine Z_runs [.slice p659 x657.length c660, .int .i64 s746, .int .i64 (w64 (s746 - 1))] [(0, .slice p659 x657.length c660), (4, .pointer (some ⟨b760, 0, none⟩)), (5, .slice p659 x657.length c660), (6, .int .i64 (x657.length : Int)), (7, .int .i64 s746), (15, .bool false), (18, .bool true), (19, .slice p659 x657.length c660), (21, .int .i64 (w64 (s746 - 1)))] (fun w_ => by kernel_rfl) (by kernel_rfl) ?_
          obtain ⟨y789, hy789, hm⟩ := gx_bind hm
          refine Z_val (elemP p659 ((w64 (s746 - 1)).toNat * 4)) (by kernel_rfl) (fun w_ M_ => (E_index (E := encEvent) _ _ _ x657.length c660 .i64 (w64 (s746 - 1)) 4 (y := y789) rfl (by kernel_rfl) (by kernel_rfl) (by kernel_rfl) (h661.mem0 M_) rfl hy789)) ?_
          refine Z_val (elemP p659 ((w64 (s746 - 1)).toNat * 4 + 0)) (by kernel_rfl) (fun w_ M_ => (E_fieldE (E := encEvent) _ _ 0 ((w64 (s746 - 1)).toNat * 4) 0 rfl (by kernel_rfl) (by kernel_rfl) (h661.mem0 M_) hy789)) ?_
          refine Z_val (.int .i64 y789.Tick) (by kernel_rfl) (fun w_ M_ => (E_loadE (E := encEvent) _ _ false 1 (w64 (s746 - 1)) 0 ((w64 (s746 - 1)).toNat * 4 + 0) y789 (.int .i64 y789.Tick) rfl (by kernel_rfl) (by kernel_rfl) (by kernel_rfl) (h661.mem0 M_) hy789 rfl)) ?_
          refine Z_runs [.pointer (some ⟨b760, 0, none⟩)] [(0, .slice p659 x657.length c660), (5, .slice p659 x657.length c660), (6, .int .i64 (x657.length : Int)), (7, .int .i64 s746), (15, .bool false), (18, .bool true), (24, .int .i64 y789.Tick), (25, .pointer (some ⟨b760, 0, none⟩))] (fun w_ => by kernel_rfl) (by kernel_rfl) ?_
          refine Z_val (.int .i64 y758.Tick) (by kernel_rfl) (fun w_ M_ => (E_load (e := 26) (fr := (0, 0)) _ _ false 1 b760 0 [.int .i64 y758.Tick, .int .i64 y758.Guest, .string y758.Kind, .int .i64 y758.Value] (.int .i64 y758.Tick) rfl (by kernel_rfl) (by kernel_rfl) (by kernel_rfl) (M_.blk 0 (b := b760) (o := .cells ⟨[.int .i64 y758.Tick, .int .i64 y758.Guest, .string y758.Kind, .int .i64 y758.Value]⟩ 26 (0, 0)) (by kernel_rfl)))) ?_
          refine Z_runs [.bool (decide (y789.Tick > y758.Tick)), .bool (decide (y789.Tick > y758.Tick)), .bool (decide (y789.Tick > y758.Tick))] [(0, .slice p659 x657.length c660), (5, .slice p659 x657.length c660), (6, .int .i64 (x657.length : Int)), (7, .int .i64 s746), (29, .bool (decide (y789.Tick > y758.Tick)))] (fun w_ => by kernel_rfl) (by kernel_rfl) ?_
          refine Z_end fun w790 M791 => ?_
          obtain rfl := Option.some.inj hm
          exact N_meet fun a ha => ⟨M791.pick [] (by kernel_rfl), ha.sub (by kernel_rfl)⟩
        refine Z_known 18 false (by kernel_rfl) hc788 ?_
        refine Z_runs [undef, undef, undef, undef, undef, undef, undef, undef, undef, .bool false, .bool false] [(0, .slice p659 x657.length c660), (5, .slice p659 x657.length c660), (6, .int .i64 (x657.length : Int)), (7, .int .i64 s746), (29, .bool false)] (fun w_ => by kernel_rfl) (by kernel_rfl) ?_
        refine Z_end fun w792 M793 => ?_
        obtain rfl := Option.some.inj hm
        exact N_meet fun a ha => ⟨M793.pick [] (by kernel_rfl), ha.sub (by kernel_rfl)⟩
      intro a796 w794 ⟨M795, hS797⟩
      refine N_use hS797 ?_
      have hm := hm780
      refine N_then ?_
      rcases gx_bif hm with ⟨hc798, hm⟩ | ⟨hc798, hm⟩
      · refine G_cond_t (b := o778) hc798 (by kernel_rfl) ?_
        refine G_seq ?_
        refine G_region ?_
        refine W_run 1 [(2, .bool false)] w794 (by kernel_rfl) ?_
        refine W_nil ?_
        refine N_then ?_
        refine G_ret ?_
        refine N_block_ret ?_
        refine N_then_ret ?_
        refine N_then_ret ?_
        obtain rfl := Option.some.inj hm
        obtain rfl := hout748 _ rfl
        have hm := hmo755; simp only [Sum.elim_inr] at hm
        refine N_block_ret ?_
        refine N_meet_ret ?_
        refine N_then_ret ?_
        obtain rfl := Option.some.inj hm
        refine N_ret [.bool false] (RVs_cons (RV_tmp (by kernel_rfl)) RVs_nil) ?_
        exact ⟨rfl, M795.pick [] (by kernel_rfl)⟩
      refine G_cond_f (b := o778) hc798 (by kernel_rfl) ?_
      refine G_skip ?_
      refine N_block ?_
      refine N_then ?_
      refine G_region ?_
      refine W_run 2 [(0, .slice p659 x657.length c660), (5, .slice p659 x657.length c660), (6, .int .i64 (x657.length : Int)), (7, .int .i64 (w64 (s746 + 1)))] w794 (by kernel_rfl) ?_
      refine W_nil ?_
      obtain rfl := Option.some.inj hm
      exact N_loop fun a ha => ⟨_, rfl, M795.pick [] (by kernel_rfl), ha.sub (by kernel_rfl)⟩
    refine G_cond_f (b := (decide (s746 < (x657.length : Int)))) hc757 (by kernel_rfl) ?_
    refine G_exit ?_
    refine N_then_exit ?_
    refine N_then_exit ?_
    refine N_block_eq ?_
    obtain rfl := Option.some.inj hm
    obtain rfl := hout748 _ rfl
    exact N_meet fun a ha => ⟨_, rfl, M751.pick [] (by kernel_rfl), ha.sub (by kernel_rfl)⟩
  intro a799 w800 ⟨o756, hout_, M801, hS802⟩
  refine N_use hS802 ?_
  subst hout_
  have hm := hmo755; simp only [Sum.elim_inl] at hm
  refine N_then ?_
  refine G_seq ?_
  refine G_region ?_
  refine W_run 4 [(2, .bool (decide ((x657.length : Int) ≤ 30)))] w800 (by kernel_rfl) ?_
  refine W_nil ?_
  refine N_then ?_
  refine G_ret ?_
  obtain rfl := Option.some.inj hm
  refine N_ret [.bool (decide ((x657.length : Int) ≤ 30))] (RVs_cons (RV_tmp (by kernel_rfl)) RVs_nil) ?_
  exact ⟨rfl, M801.pick [] (by kernel_rfl)⟩
theorem c_l_eqEvent (w : World) (x831 : Event) (x832 : Event) {r : Bool} (hm : M.l_eqEvent x831 x832 = some r) :
    Calls Try.prog 57 #[.agg #[.int .i64 x831.Tick, .int .i64 x831.Guest, .string x831.Kind, .int .i64 x831.Value], .agg #[.int .i64 x832.Tick, .int .i64 x832.Guest, .string x832.Kind, .int .i64 x832.Value]] w fun e w' => e = .returned (.bool r) ∧ Mem [] w w' [] := by
  unfold M.l_eqEvent at hm
  refine C_enter Try.func57 rfl (by kernel_rfl) ?_
  have M0 := Mem.refl [] w
  refine G_seq ?_
  refine G_region ?_
  refine W_new (fun b => .pointer (some ⟨b, 0, none⟩)) (.cells ⟨[.int .i64 x831.Tick, .int .i64 x831.Guest, .string x831.Kind, .int .i64 x831.Value]⟩ 26 (0, 0)) M0 rfl (by kernel_rfl) (by kernel_rfl) ?_
  intro b834 w835 M836
  refine W_new (fun b => .pointer (some ⟨b, 0, none⟩)) (.cells ⟨[.int .i64 x832.Tick, .int .i64 x832.Guest, .string x832.Kind, .int .i64 x832.Value]⟩ 26 (0, 0)) M836 rfl (by kernel_rfl) (by kernel_rfl) ?_
  intro b838 w839 M840
  refine W_run 1 [(2, .pointer (some ⟨b834, 0, none⟩)), (3, .pointer (some ⟨b838, 0, none⟩))] w839 (by kernel_rfl) ?_
  refine W_nil ?_
  refine N_then ?_
  refine G_seq ?_
  refine G_seq ?_
  refine G_region ?_
  refine W_run 1 [(2, .pointer (some ⟨b834, 0, none⟩)), (3, .pointer (some ⟨b838, 0, none⟩)), (5, .pointer (some ⟨b834, 0, none⟩))] w839 (by kernel_rfl) ?_
  refine W_val (.int .i64 x831.Tick) w839 (by kernel_rfl) (E_load (e := 26) (fr := (0, 0)) _ _ false 1 b834 0 [.int .i64 x831.Tick, .int .i64 x831.Guest, .string x831.Kind, .int .i64 x831.Value] (.int .i64 x831.Tick) rfl (by kernel_rfl) (by kernel_rfl) (by kernel_rfl) (M840.blk 0 (b := b834) (o := .cells ⟨[.int .i64 x831.Tick, .int .i64 x831.Guest, .string x831.Kind, .int .i64 x831.Value]⟩ 26 (0, 0)) (by kernel_rfl))) ?_
  refine W_run 1 [(2, .pointer (some ⟨b834, 0, none⟩)), (3, .pointer (some ⟨b838, 0, none⟩)), (6, .int .i64 x831.Tick), (7, .pointer (some ⟨b838, 0, none⟩))] w839 (by kernel_rfl) ?_
  refine W_val (.int .i64 x832.Tick) w839 (by kernel_rfl) (E_load (e := 26) (fr := (0, 0)) _ _ false 1 b838 0 [.int .i64 x832.Tick, .int .i64 x832.Guest, .string x832.Kind, .int .i64 x832.Value] (.int .i64 x832.Tick) rfl (by kernel_rfl) (by kernel_rfl) (by kernel_rfl) (M840.blk 1 (b := b838) (o := .cells ⟨[.int .i64 x832.Tick, .int .i64 x832.Guest, .string x832.Kind, .int .i64 x832.Value]⟩ 26 (0, 0)) (by kernel_rfl))) ?_
  refine W_run 1 [(2, .pointer (some ⟨b834, 0, none⟩)), (3, .pointer (some ⟨b838, 0, none⟩)), (9, .bool (x831.Tick != x832.Tick))] w839 (by kernel_rfl) ?_
  refine W_nil ?_
  refine N_then ?_
  rcases gx_bif hm with ⟨hc841, hm⟩ | ⟨hc841, hm⟩
  · refine G_cond_t (b := (x831.Tick != x832.Tick)) hc841 (by kernel_rfl) ?_
    refine G_seq ?_
    refine G_region ?_
    refine W_run 1 [(4, .bool false)] w839 (by kernel_rfl) ?_
    refine W_nil ?_
    refine N_then ?_
    refine G_ret ?_
    refine N_then_ret ?_
    obtain rfl := Option.some.inj hm
    refine N_ret [.bool false] (RVs_cons (RV_tmp (by kernel_rfl)) RVs_nil) ?_
    exact ⟨rfl, M840.pick [] (by kernel_rfl)⟩
  refine G_cond_f (b := (x831.Tick != x832.Tick)) hc841 (by kernel_rfl) ?_
  refine G_skip ?_
  refine N_then ?_
  refine G_seq ?_
  refine G_seq ?_
  refine G_region ?_
  refine W_run 1 [(2, .pointer (some ⟨b834, 0, none⟩)), (3, .pointer (some ⟨b838, 0, none⟩)), (10, .pointer (some ⟨b834, 1, none⟩))] w839 (by kernel_rfl) ?_
  refine W_val (.int .i64 x831.Guest) w839 (by kernel_rfl) (E_load (e := 26) (fr := (0, 0)) _ _ false 1 b834 1 [.int .i64 x831.Tick, .int .i64 x831.Guest, .string x831.Kind, .int .i64 x831.Value] (.int .i64 x831.Guest) rfl (by kernel_rfl) (by kernel_rfl) (by kernel_rfl) (M840.blk 0 (b := b834) (o := .cells ⟨[.int .i64 x831.Tick, .int .i64 x831.Guest, .string x831.Kind, .int .i64 x831.Value]⟩ 26 (0, 0)) (by kernel_rfl))) ?_
  refine W_run 1 [(2, .pointer (some ⟨b834, 0, none⟩)), (3, .pointer (some ⟨b838, 0, none⟩)), (11, .int .i64 x831.Guest), (12, .pointer (some ⟨b838, 1, none⟩))] w839 (by kernel_rfl) ?_
  refine W_val (.int .i64 x832.Guest) w839 (by kernel_rfl) (E_load (e := 26) (fr := (0, 0)) _ _ false 1 b838 1 [.int .i64 x832.Tick, .int .i64 x832.Guest, .string x832.Kind, .int .i64 x832.Value] (.int .i64 x832.Guest) rfl (by kernel_rfl) (by kernel_rfl) (by kernel_rfl) (M840.blk 1 (b := b838) (o := .cells ⟨[.int .i64 x832.Tick, .int .i64 x832.Guest, .string x832.Kind, .int .i64 x832.Value]⟩ 26 (0, 0)) (by kernel_rfl))) ?_
  refine W_run 1 [(2, .pointer (some ⟨b834, 0, none⟩)), (3, .pointer (some ⟨b838, 0, none⟩)), (14, .bool (x831.Guest != x832.Guest))] w839 (by kernel_rfl) ?_
  refine W_nil ?_
  refine N_then ?_
  rcases gx_bif hm with ⟨hc842, hm⟩ | ⟨hc842, hm⟩
  · refine G_cond_t (b := (x831.Guest != x832.Guest)) hc842 (by kernel_rfl) ?_
    refine G_seq ?_
    refine G_region ?_
    refine W_run 1 [(4, .bool false)] w839 (by kernel_rfl) ?_
    refine W_nil ?_
    refine N_then ?_
    refine G_ret ?_
    refine N_then_ret ?_
    obtain rfl := Option.some.inj hm
    refine N_ret [.bool false] (RVs_cons (RV_tmp (by kernel_rfl)) RVs_nil) ?_
    exact ⟨rfl, M840.pick [] (by kernel_rfl)⟩
  refine G_cond_f (b := (x831.Guest != x832.Guest)) hc842 (by kernel_rfl) ?_
  refine G_skip ?_
  refine N_then ?_
  refine G_seq ?_
  refine G_seq ?_
  refine G_region ?_
  refine W_run 1 [(2, .pointer (some ⟨b834, 0, none⟩)), (3, .pointer (some ⟨b838, 0, none⟩)), (15, .pointer (some ⟨b834, 2, none⟩))] w839 (by kernel_rfl) ?_
  refine W_val (.string x831.Kind) w839 (by kernel_rfl) (E_load (e := 26) (fr := (0, 0)) _ _ false 1 b834 2 [.int .i64 x831.Tick, .int .i64 x831.Guest, .string x831.Kind, .int .i64 x831.Value] (.string x831.Kind) rfl (by kernel_rfl) (by kernel_rfl) (by kernel_rfl) (M840.blk 0 (b := b834) (o := .cells ⟨[.int .i64 x831.Tick, .int .i64 x831.Guest, .string x831.Kind, .int .i64 x831.Value]⟩ 26 (0, 0)) (by kernel_rfl))) ?_
  refine W_run 1 [(2, .pointer (some ⟨b834, 0, none⟩)), (3, .pointer (some ⟨b838, 0, none⟩)), (16, .string x831.Kind), (17, .pointer (some ⟨b838, 2, none⟩))] w839 (by kernel_rfl) ?_
  refine W_val (.string x832.Kind) w839 (by kernel_rfl) (E_load (e := 26) (fr := (0, 0)) _ _ false 1 b838 2 [.int .i64 x832.Tick, .int .i64 x832.Guest, .string x832.Kind, .int .i64 x832.Value] (.string x832.Kind) rfl (by kernel_rfl) (by kernel_rfl) (by kernel_rfl) (M840.blk 1 (b := b838) (o := .cells ⟨[.int .i64 x832.Tick, .int .i64 x832.Guest, .string x832.Kind, .int .i64 x832.Value]⟩ 26 (0, 0)) (by kernel_rfl))) ?_
  refine W_run 1 [(2, .pointer (some ⟨b834, 0, none⟩)), (3, .pointer (some ⟨b838, 0, none⟩)), (19, .bool (!(x831.Kind.toList == x832.Kind.toList)))] w839 (by kernel_rfl) ?_
  refine W_nil ?_
  refine N_then ?_
  rcases gx_bif hm with ⟨hc843, hm⟩ | ⟨hc843, hm⟩
  · refine G_cond_t (b := (!(x831.Kind.toList == x832.Kind.toList))) hc843 (by kernel_rfl) ?_
    refine G_seq ?_
    refine G_region ?_
    refine W_run 1 [(4, .bool false)] w839 (by kernel_rfl) ?_
    refine W_nil ?_
    refine N_then ?_
    refine G_ret ?_
    refine N_then_ret ?_
    obtain rfl := Option.some.inj hm
    refine N_ret [.bool false] (RVs_cons (RV_tmp (by kernel_rfl)) RVs_nil) ?_
    exact ⟨rfl, M840.pick [] (by kernel_rfl)⟩
  refine G_cond_f (b := (!(x831.Kind.toList == x832.Kind.toList))) hc843 (by kernel_rfl) ?_
  refine G_skip ?_
  refine N_then ?_
  refine G_seq ?_
  refine G_seq ?_
  refine G_region ?_
  refine W_run 1 [(3, .pointer (some ⟨b838, 0, none⟩)), (20, .pointer (some ⟨b834, 3, none⟩))] w839 (by kernel_rfl) ?_
  refine W_val (.int .i64 x831.Value) w839 (by kernel_rfl) (E_load (e := 26) (fr := (0, 0)) _ _ false 1 b834 3 [.int .i64 x831.Tick, .int .i64 x831.Guest, .string x831.Kind, .int .i64 x831.Value] (.int .i64 x831.Value) rfl (by kernel_rfl) (by kernel_rfl) (by kernel_rfl) (M840.blk 0 (b := b834) (o := .cells ⟨[.int .i64 x831.Tick, .int .i64 x831.Guest, .string x831.Kind, .int .i64 x831.Value]⟩ 26 (0, 0)) (by kernel_rfl))) ?_
  refine W_run 1 [(21, .int .i64 x831.Value), (22, .pointer (some ⟨b838, 3, none⟩))] w839 (by kernel_rfl) ?_
  refine W_val (.int .i64 x832.Value) w839 (by kernel_rfl) (E_load (e := 26) (fr := (0, 0)) _ _ false 1 b838 3 [.int .i64 x832.Tick, .int .i64 x832.Guest, .string x832.Kind, .int .i64 x832.Value] (.int .i64 x832.Value) rfl (by kernel_rfl) (by kernel_rfl) (by kernel_rfl) (M840.blk 1 (b := b838) (o := .cells ⟨[.int .i64 x832.Tick, .int .i64 x832.Guest, .string x832.Kind, .int .i64 x832.Value]⟩ 26 (0, 0)) (by kernel_rfl))) ?_
  refine W_run 1 [(24, .bool (x831.Value != x832.Value))] w839 (by kernel_rfl) ?_
  refine W_nil ?_
  refine N_then ?_
  rcases gx_bif hm with ⟨hc844, hm⟩ | ⟨hc844, hm⟩
  · refine G_cond_t (b := (x831.Value != x832.Value)) hc844 (by kernel_rfl) ?_
    refine G_seq ?_
    refine G_region ?_
    refine W_run 1 [(4, .bool false)] w839 (by kernel_rfl) ?_
    refine W_nil ?_
    refine N_then ?_
    refine G_ret ?_
    refine N_then_ret ?_
    obtain rfl := Option.some.inj hm
    refine N_ret [.bool false] (RVs_cons (RV_tmp (by kernel_rfl)) RVs_nil) ?_
    exact ⟨rfl, M840.pick [] (by kernel_rfl)⟩
  refine G_cond_f (b := (x831.Value != x832.Value)) hc844 (by kernel_rfl) ?_
  refine G_skip ?_
  refine N_then ?_
  refine G_seq ?_
  refine G_region ?_
  refine W_run 1 [(4, .bool true)] w839 (by kernel_rfl) ?_
  refine W_nil ?_
  refine N_then ?_
  refine G_ret ?_
  obtain rfl := Option.some.inj hm
  refine N_ret [.bool true] (RVs_cons (RV_tmp (by kernel_rfl)) RVs_nil) ?_
  exact ⟨rfl, M840.pick [] (by kernel_rfl)⟩
theorem c_l_eqEventS (w : World) (x817 : List Event) (p819 : Option Addr) (c820 : Nat) (h821 : rdS encEvent w x817 p819 c820) (x822 : List Event) (p824 : Option Addr) (c825 : Nat) (h826 : rdS encEvent w x822 p824 c825) {r : Bool} (hm : M.l_eqEventS x817 x822 = some r) :
    Calls Try.prog 21 #[.slice p819 x817.length c820, .slice p824 x822.length c825] w fun e w' => e = .returned (.bool r) ∧ Mem [] w w' [] := by
  unfold M.l_eqEventS at hm
  refine C_enter Try.func21 rfl (by kernel_rfl) ?_
  have M0 := Mem.refl [] w
  refine G_seq ?_
  refine G_region ?_
  refine W_run 1 [(0, .slice p819 x817.length c820), (1, .slice p824 x822.length c825)] w (by kernel_rfl) ?_
  refine W_nil ?_
  refine N_then ?_
  refine G_seq ?_
  refine G_seq ?_
  refine G_region ?_
  refine W_run 5 [(0, .slice p819 x817.length c820), (1, .slice p824 x822.length c825), (10, .bool ((x817.length : Int) != (x822.length : Int)))] w (by kernel_rfl) ?_
  refine W_nil ?_
  refine N_then ?_
  rcases gx_bif hm with ⟨hc827, hm⟩ | ⟨hc827, hm⟩
  · refine G_cond_t (b := ((x817.length : Int) != (x822.length : Int))) hc827 (by kernel_rfl) ?_
    refine G_seq ?_
    refine G_region ?_
    refine W_run 1 [(4, .bool false)] w (by kernel_rfl) ?_
    refine W_nil ?_
    refine N_then ?_
    refine G_ret ?_
    refine N_then_ret ?_
    obtain rfl := Option.some.inj hm
    refine N_ret [.bool false] (RVs_cons (RV_tmp (by kernel_rfl)) RVs_nil) ?_
    exact ⟨rfl, M0.pick [] (by kernel_rfl)⟩
  refine G_cond_f (b := ((x817.length : Int) != (x822.length : Int))) hc827 (by kernel_rfl) ?_
  refine G_skip ?_
  refine N_then ?_
  refine G_seq ?_
  refine G_seq ?_
  refine G_region ?_
  refine W_run 1 [(0, .slice p819 x817.length c820), (1, .slice p824 x822.length c825), (5, .int .i64 0)] w (by kernel_rfl) ?_
  refine W_nil ?_
  refine N_then ?_
  obtain ⟨out869, hw870, hmo871⟩ := gx_bind hm
  refine G_meet (fun a w' => ∃ (o872 : Unit), out869 = .inl o872 ∧ Mem [] w w' [] ∧ Sat Try.f21.ntmps [] a) ?_ ?_
  · refine G_block ?_
    refine G_while (σ := Int) (ρ := (Unit) ⊕ (Bool)) (fun s862 a w' => Mem [] w w' [] ∧ Sat Try.f21.ntmps [(0, .slice p819 x817.length c820), (1, .slice p824 x822.length c825), (5, .int .i64 s862)] a) hw870 (fun a ha => ⟨M0.pick [] (by kernel_rfl), ha.sub (by kernel_rfl)⟩) ?_
    clear hm
    intro s862 x863 hm hout864 a865 w866 ⟨M867, hS868⟩
    refine G_use hS868 ?_
    refine G_seq ?_
    refine G_seq ?_
    refine G_region ?_
    refine W_run 4 [(0, .slice p819 x817.length c820), (1, .slice p824 x822.length c825), (5, .int .i64 s862), (14, .bool (decide (s862 < (x817.length : Int))))] w866 (by kernel_rfl) ?_
    refine W_nil ?_
    refine N_then ?_
    rcases gx_bif hm with ⟨hc873, hm⟩ | ⟨hc873, hm⟩
    · refine G_cond_t (b := (decide (s862 < (x817.length : Int)))) hc873 (by kernel_rfl) ?_
      refine G_skip ?_
      refine N_then ?_
      refine G_seq ?_
      refine G_block ?_
      refine G_seq ?_
      refine G_quiet (by kernel_rfl) (by kernel_rfl) M867 ?_
      refine Z_runs [.slice p819 x817.length c820, .int .i64 s862] [(0, .slice p819 x817.length c820), (1, .slice p824 x822.length c825), (5, .int .i64 s862), (17, .slice p819 x817.length c820), (18, .int .i64 s862)] (fun w_ => by kernel_rfl) (by kernel_rfl) ?_
      obtain ⟨y874, hy874, hm⟩ := gx_bind hm
      refine Z_val (elemP p819 (s862.toNat * 4)) (by kernel_rfl) (fun w_ M_ => (E_index (E := encEvent) _ _ _ x817.length c820 .i64 s862 4 (y := y874) rfl (by kernel_rfl) (by kernel_rfl) (by kernel_rfl) (h821.mem0 M_) rfl hy874)) ?_
      refine Z_val (.agg #[.int .i64 y874.Tick, .int .i64 y874.Guest, .string y874.Kind, .int .i64 y874.Value]) (by kernel_rfl) (fun w_ M_ => (E_loadE (E := encEvent) _ _ true 4 s862 0 (s862.toNat * 4) y874 (.agg #[.int .i64 y874.Tick, .int .i64 y874.Guest, .string y874.Kind, .int .i64 y874.Value]) rfl (by kernel_rfl) (by kernel_rfl) (by kernel_rfl) (h821.mem0 M_) hy874 rfl)) ?_
      refine Z_runs [.slice p824 x822.length c825, .int .i64 s862] [(0, .slice p819 x817.length c820), (1, .slice p824 x822.length c825), (5, .int .i64 s862), (20, .agg #[.int .i64 y874.Tick, .int .i64 y874.Guest, .string y874.Kind, .int .i64 y874.Value]), (21, .slice p824 x822.length c825), (22, .int .i64 s862)] (fun w_ => by kernel_rfl) (by kernel_rfl) ?_
      obtain ⟨y875, hy875, hm⟩ := gx_bind hm
      refine Z_val (elemP p824 (s862.toNat * 4)) (by kernel_rfl) (fun w_ M_ => (E_index (E := encEvent) _ _ _ x822.length c825 .i64 s862 4 (y := y875) rfl (by kernel_rfl) (by kernel_rfl) (by kernel_rfl) (h826.mem0 M_) rfl hy875)) ?_
      refine Z_val (.agg #[.int .i64 y875.Tick, .int .i64 y875.Guest, .string y875.Kind, .int .i64 y875.Value]) (by kernel_rfl) (fun w_ M_ => (E_loadE (E := encEvent) _ _ true 4 s862 0 (s862.toNat * 4) y875 (.agg #[.int .i64 y875.Tick, .int .i64 y875.Guest, .string y875.Kind, .int .i64 y875.Value]) rfl (by kernel_rfl) (by kernel_rfl) (by kernel_rfl) (h826.mem0 M_) hy875 rfl)) ?_
      obtain ⟨r876, hr876, hm⟩ := gx_bind hm
      refine Z_call 57 #[.agg #[.int .i64 y874.Tick, .int .i64 y874.Guest, .string y874.Kind, .int .i64 y874.Value], .agg #[.int .i64 y875.Tick, .int .i64 y875.Guest, .string y875.Kind, .int .i64 y875.Value]] (.bool r876) (by kernel_rfl) (fun w_ => by kernel_rfl) (fun w_ M_ => (c_l_eqEvent w_ y874 y875 hr876).mono fun e w2_ h_ => ⟨h_.1, M_.call0 h_.2⟩) ?_
      refine Z_runs [.bool (!r876)] [(0, .slice p819 x817.length c820), (1, .slice p824 x822.length c825), (5, .int .i64 s862), (26, .bool (!r876))] (fun w_ => by kernel_rfl) (by kernel_rfl) ?_
      refine Z_end fun w880 M881 => ?_
      refine N_then ?_
      rcases gx_bif hm with ⟨hc882, hm⟩ | ⟨hc882, hm⟩
      · refine G_cond_t (b := (!r876)) hc882 (by kernel_rfl) ?_
        refine G_seq ?_
        refine G_region ?_
        refine W_run 1 [(4, .bool false)] w880 (by kernel_rfl) ?_
        refine W_nil ?_
        refine N_then ?_
        refine G_ret ?_
        refine N_block_ret ?_
        refine N_then_ret ?_
        refine N_then_ret ?_
        obtain rfl := Option.some.inj hm
        obtain rfl := hout864 _ rfl
        have hm := hmo871; simp only [Sum.elim_inr] at hm
        refine N_block_ret ?_
        refine N_meet_ret ?_
        refine N_then_ret ?_
        obtain rfl := Option.some.inj hm
        refine N_ret [.bool false] (RVs_cons (RV_tmp (by kernel_rfl)) RVs_nil) ?_
        exact ⟨rfl, M881.pick [] (by kernel_rfl)⟩
      refine G_cond_f (b := (!r876)) hc882 (by kernel_rfl) ?_
      refine G_skip ?_
      refine N_block ?_
      refine N_then ?_
      refine G_region ?_
      refine W_run 3 [(0, .slice p819 x817.length c820), (1, .slice p824 x822.length c825), (5, .int .i64 (w64 (s862 + 1)))] w880 (by kernel_rfl) ?_
      refine W_nil ?_
      obtain rfl := Option.some.inj hm
      exact N_loop fun a ha => ⟨_, rfl, M881.pick [] (by kernel_rfl), ha.sub (by kernel_rfl)⟩
    refine G_cond_f (b := (decide (s862 < (x817.length : Int)))) hc873 (by kernel_rfl) ?_
    refine G_exit ?_
    refine N_then_exit ?_
    refine N_then_exit ?_
    refine N_block_eq ?_
    obtain rfl := Option.some.inj hm
    obtain rfl := hout864 _ rfl
    exact N_meet fun a ha => ⟨_, rfl, M867.pick [] (by kernel_rfl), ha.sub (by kernel_rfl)⟩
  intro a883 w884 ⟨o872, hout_, M885, hS886⟩
  refine N_use hS886 ?_
  subst hout_
  have hm := hmo871; simp only [Sum.elim_inl] at hm
  refine N_then ?_
  refine G_seq ?_
  refine G_region ?_
  refine W_run 1 [(4, .bool true)] w884 (by kernel_rfl) ?_
  refine W_nil ?_
  refine N_then ?_
  refine G_ret ?_
  obtain rfl := Option.some.inj hm
  refine N_ret [.bool true] (RVs_cons (RV_tmp (by kernel_rfl)) RVs_nil) ?_
  exact ⟨rfl, M885.pick [] (by kernel_rfl)⟩
theorem c_l_FnExactIsRecord (w : World) (x364 : List Event) (p366 : Option Addr) (c367 : Nat) (h368 : rdS encEvent w x364 p366 c367) {r : Bool} (hm : M.l_FnExactIsRecord x364 = some r) :
    Calls Try.prog 4 #[.slice p366 x364.length c367] w fun e w' => e = .returned (.bool r) ∧ Mem [] w w' [] := by
  unfold M.l_FnExactIsRecord at hm
  refine C_enter Try.func4 rfl (by kernel_rfl) ?_
  have M0 := Mem.refl [] w
  refine G_seq ?_
  refine G_region ?_
  refine W_run 1 [(0, .slice p366 x364.length c367)] w (by kernel_rfl) ?_
  refine W_nil ?_
  refine N_then ?_
  refine G_seq ?_
  refine G_region ?_
  refine W_run 1 [(0, .slice p366 x364.length c367), (3, .int .i64 1048576)] w (by kernel_rfl) ?_
  refine W_nil ?_
  refine N_then ?_
  refine G_seq ?_
  refine G_region ?_
  refine W_run 2 [(0, .slice p366 x364.length c367), (3, .int .i64 1048576), (7, .slice p366 x364.length c367), (8, .int .i64 1048576)] w (by kernel_rfl) ?_
  obtain ⟨r412, hr412, hm⟩ := gx_bind hm
  refine W_call 17 #[.slice p366 x364.length c367, .int .i64 1048576] (by kernel_rfl) (by kernel_rfl) ?_
  refine (c_l_szEventS w x364 p366 c367 (h368.mem0 M0) 1048576 hr412).mono ?_
  rintro e_ w413 ⟨rfl, K414⟩
  have M415 := M0.call0 K414
  refine ⟨_, rfl, ?_⟩
  refine W_run 1 [(0, .slice p366 x364.length c367), (3, .int .i64 r412)] w413 (by kernel_rfl) ?_
  refine W_nil ?_
  refine N_then ?_
  refine G_seq ?_
  refine G_seq ?_
  refine G_region ?_
  refine W_run 2 [(0, .slice p366 x364.length c367), (11, .bool (decide (r412 < 0)))] w413 (by kernel_rfl) ?_
  refine W_nil ?_
  refine N_then ?_
  rcases gx_bif hm with ⟨hc416, hm⟩ | ⟨hc416, hm⟩
  · refine G_cond_t (b := (decide (r412 < 0))) hc416 (by kernel_rfl) ?_
    refine G_seq ?_
    refine G_region ?_
    refine W_run 1 [(2, .bool true)] w413 (by kernel_rfl) ?_
    refine W_nil ?_
    refine N_then ?_
    refine G_ret ?_
    refine N_then_ret ?_
    obtain rfl := Option.some.inj hm
    refine N_ret [.bool true] (RVs_cons (RV_tmp (by kernel_rfl)) RVs_nil) ?_
    exact ⟨rfl, M415.pick [] (by kernel_rfl)⟩
  refine G_cond_f (b := (decide (r412 < 0))) hc416 (by kernel_rfl) ?_
  refine G_skip ?_
  refine N_then ?_
  refine G_seq ?_
  refine G_region ?_
  refine W_run 1 [(0, .slice p366 x364.length c367), (12, .slice p366 x364.length c367)] w413 (by kernel_rfl) ?_
  obtain ⟨r489, hr489, hm⟩ := gx_bind hm
  refine W_call 19 #[.slice p366 x364.length c367] (by kernel_rfl) (by kernel_rfl) ?_
  refine (c_l_toEventS w413 x364 p366 c367 (h368.mem0 M415) hr489).mono ?_
  rintro e_ w495 ⟨p491, c492, sg493, rfl, ho494, K496⟩
  have M497 := M415.call K496
  refine ⟨_, rfl, ?_⟩
  obtain ⟨r644, hr644, hm⟩ := gx_bind hm
  refine W_call 18 #[.slice p491 r489.length c492] (by kernel_rfl) (by kernel_rfl) ?_
  refine (c_s_IsRecord w495 r489 p491 c492 (ho494.rd M497 0 (by kernel_rfl)) hr644).mono ?_
  rintro e_ w645 ⟨rfl, K646⟩
  have M647 := M497.call0 K646
  refine ⟨_, rfl, ?_⟩
  refine W_run 1 [(0, .slice p366 x364.length c367), (4, .bool r644)] w645 (by kernel_rfl) ?_
  refine W_nil ?_
  refine N_then ?_
  refine G_seq ?_
  refine G_region ?_
  refine W_run 1 [(0, .slice p366 x364.length c367), (4, .bool r644), (15, .slice p366 x364.length c367)] w645 (by kernel_rfl) ?_
  obtain ⟨r648, hr648, hm⟩ := gx_bind hm
  refine W_call 19 #[.slice p366 x364.length c367] (by kernel_rfl) (by kernel_rfl) ?_
  refine (c_l_toEventS w645 x364 p366 c367 (h368.mem0 M647) hr648).mono ?_
  rintro e_ w654 ⟨p650, c651, sg652, rfl, ho653, K655⟩
  have M656 := M647.call K655
  refine ⟨_, rfl, ?_⟩
  refine W_run 1 [(0, .slice p366 x364.length c367), (4, .bool r644), (5, .slice p650 r648.length c651)] w654 (by kernel_rfl) ?_
  refine W_nil ?_
  refine N_then ?_
  refine G_seq ?_
  refine G_region ?_
  refine W_run 1 [(0, .slice p366 x364.length c367), (4, .bool r644), (5, .slice p650 r648.length c651), (17, .slice p650 r648.length c651)] w654 (by kernel_rfl) ?_
  obtain ⟨r803, hr803, hm⟩ := gx_bind hm
  refine W_call 20 #[.slice p650 r648.length c651] (by kernel_rfl) (by kernel_rfl) ?_
  refine (c_i_IsRecord w654 r648 p650 c651 (ho653.rd M656 1 (by kernel_rfl)) hr803).mono ?_
  rintro e_ w804 ⟨rfl, K805⟩
  have M806 := M656.call0 K805
  refine ⟨_, rfl, ?_⟩
  refine W_run 1 [(0, .slice p366 x364.length c367), (4, .bool r644), (5, .slice p650 r648.length c651), (6, .bool r803)] w804 (by kernel_rfl) ?_
  refine W_nil ?_
  refine N_then ?_
  refine G_seq ?_
  refine G_seq ?_
  refine G_region ?_
  refine W_run 3 [(0, .slice p366 x364.length c367), (5, .slice p650 r648.length c651), (21, .bool (!(r803 == r644)))] w804 (by kernel_rfl) ?_
  refine W_nil ?_
  refine N_then ?_
  rcases gx_bif hm with ⟨hc807, hm⟩ | ⟨hc807, hm⟩
  · refine G_cond_t (b := (!(r803 == r644))) hc807 (by kernel_rfl) ?_
    refine G_seq ?_
    refine G_region ?_
    refine W_run 1 [(2, .bool false)] w804 (by kernel_rfl) ?_
    refine W_nil ?_
    refine N_then ?_
    refine G_ret ?_
    refine N_then_ret ?_
    obtain rfl := Option.some.inj hm
    refine N_ret [.bool false] (RVs_cons (RV_tmp (by kernel_rfl)) RVs_nil) ?_
    exact ⟨rfl, M806.pick [] (by kernel_rfl)⟩
  refine G_cond_f (b := (!(r803 == r644))) hc807 (by kernel_rfl) ?_
  refine G_skip ?_
  refine N_then ?_
  refine G_seq ?_
  refine G_seq ?_
  refine G_region ?_
  refine W_run 2 [(22, .slice p650 r648.length c651), (23, .slice p366 x364.length c367)] w804 (by kernel_rfl) ?_
  obtain ⟨r808, hr808, hm⟩ := gx_bind hm
  refine W_call 19 #[.slice p366 x364.length c367] (by kernel_rfl) (by kernel_rfl) ?_
  refine (c_l_toEventS w804 x364 p366 c367 (h368.mem0 M806) hr808).mono ?_
  rintro e_ w814 ⟨p810, c811, sg812, rfl, ho813, K815⟩
  have M816 := M806.call K815
  refine ⟨_, rfl, ?_⟩
  obtain ⟨r887, hr887, hm⟩ := gx_bind hm
  refine W_call 21 #[.slice p650 r648.length c651, .slice p810 r808.length c811] (by kernel_rfl) (by kernel_rfl) ?_
  refine (c_l_eqEventS w814 r648 p650 c651 (ho653.rd M816 1 (by kernel_rfl)) r808 p810 c811 (ho813.rd M816 2 (by kernel_rfl)) hr887).mono ?_
  rintro e_ w888 ⟨rfl, K889⟩
  have M890 := M816.call0 K889
  refine ⟨_, rfl, ?_⟩
  refine W_run 1 [(26, .bool (!r887))] w888 (by kernel_rfl) ?_
  refine W_nil ?_
  refine N_then ?_
  rcases gx_bif hm with ⟨hc891, hm⟩ | ⟨hc891, hm⟩
  · refine G_cond_t (b := (!r887)) hc891 (by kernel_rfl) ?_
    refine G_seq ?_
    refine G_region ?_
    refine W_run 1 [(2, .bool false)] w888 (by kernel_rfl) ?_
    refine W_nil ?_
    refine N_then ?_
    refine G_ret ?_
    refine N_then_ret ?_
    obtain rfl := Option.some.inj hm
    refine N_ret [.bool false] (RVs_cons (RV_tmp (by kernel_rfl)) RVs_nil) ?_
    exact ⟨rfl, M890.pick [] (by kernel_rfl)⟩
  refine G_cond_f (b := (!r887)) hc891 (by kernel_rfl) ?_
  refine G_skip ?_
  refine N_then ?_
  refine G_seq ?_
  refine G_region ?_
  refine W_run 1 [(2, .bool true)] w888 (by kernel_rfl) ?_
  refine W_nil ?_
  refine N_then ?_
  refine G_ret ?_
  obtain rfl := Option.some.inj hm
  refine N_ret [.bool true] (RVs_cons (RV_tmp (by kernel_rfl)) RVs_nil) ?_
  exact ⟨rfl, M890.pick [] (by kernel_rfl)⟩
theorem c_s_LongestGap (w : World) (x911 : List Event) (p913 : Option Addr) (c914 : Nat) (h915 : rdS encEvent w x911 p913 c914) {r : Int × Int × Bool} (hm : M.s_LongestGap x911 = some r) :
    Calls Try.prog 22 #[.slice p913 x911.length c914] w fun e w' => e = .returned (.tuple #[.int .i64 r.1, .int .i64 r.2.1, .bool r.2.2]) ∧ Mem [] w w' [] := by
  unfold M.s_LongestGap at hm
  refine C_enter Try.func22 rfl (by kernel_rfl) ?_
  have M0 := Mem.refl [] w
  refine G_seq ?_
  refine G_region ?_
  refine W_run 3 [(0, .slice p913 x911.length c914)] w (by kernel_rfl) ?_
  refine W_nil ?_
  refine N_then ?_
  refine G_seq ?_
  refine G_seq ?_
  obtain ⟨o921, ho922, hm923⟩ := gx_bind hm
  refine G_meet (fun a w' => Mem [] w w' [] ∧ Sat Try.f22.ntmps [(0, .slice p913 x911.length c914), (16, .bool o921)] a) ?_ ?_
  · have hm := ho922
    refine G_region ?_
    refine W_run 1 [(0, .slice p913 x911.length c914), (9, .slice p913 x911.length c914)] w (by kernel_rfl) ?_
    obtain ⟨r924, hr924, hm⟩ := gx_bind hm
    refine W_call 56 #[.slice p913 x911.length c914] (by kernel_rfl) (by kernel_rfl) ?_
    refine (c_s_l22Good w x911 p913 c914 (h915.mem0 M0) hr924).mono ?_
    rintro e_ w925 ⟨rfl, K926⟩
    have M927 := M0.call0 K926
    refine ⟨_, rfl, ?_⟩
    refine W_run 2 [(0, .slice p913 x911.length c914), (12, .bool (!r924))] w925 (by kernel_rfl) ?_
    rcases gx_bif hm with ⟨hc928, hm⟩ | ⟨hc928, hm⟩
    · refine W_known 12 true (by kernel_rfl) hc928 ?_
      refine W_run 4 [(0, .slice p913 x911.length c914), (16, .bool true)] w925 (by kernel_rfl) ?_
      refine W_nil ?_
      obtain rfl := Option.some.inj hm
      exact N_meet fun a ha => ⟨M927.pick [] (by kernel_rfl), ha.sub (by kernel_rfl)⟩
    refine W_known 12 false (by kernel_rfl) hc928 ?_
    refine W_run 4 [(0, .slice p913 x911.length c914), (16, .bool (decide ((x911.length : Int) < 2)))] w925 (by kernel_rfl) ?_
    refine W_nil ?_
    obtain rfl := Option.some.inj hm
    exact N_meet fun a ha => ⟨M927.pick [] (by kernel_rfl), ha.sub (by kernel_rfl)⟩
  intro a931 w929 ⟨M930, hS932⟩
  refine N_use hS932 ?_
  have hm := hm923
  refine N_then ?_
  rcases gx_bif hm with ⟨hc933, hm⟩ | ⟨hc933, hm⟩
  · refine G_cond_t (b := o921) hc933 (by kernel_rfl) ?_
    refine G_seq ?_
    refine G_region ?_
    refine W_run 3 [(2, .int .i64 0), (3, .int .i64 0), (4, .bool false)] w929 (by kernel_rfl) ?_
    refine W_nil ?_
    refine N_then ?_
    refine G_ret ?_
    refine N_then_ret ?_
    obtain rfl := Option.some.inj hm
    refine N_ret [.int .i64 0, .int .i64 0, .bool false] (RVs_cons (RV_tmp (by kernel_rfl)) (RVs_cons (RV_tmp (by kernel_rfl)) (RVs_cons (RV_tmp (by kernel_rfl)) RVs_nil))) ?_
    exact ⟨rfl, M930.pick [] (by kernel_rfl)⟩
  refine G_cond_f (b := o921) hc933 (by kernel_rfl) ?_
  refine G_skip ?_
  refine N_then ?_
  refine G_seq ?_
  refine G_region ?_
  refine W_run 2 [(0, .slice p913 x911.length c914), (5, .int .i64 (-1)), (6, .int .i64 0)] w929 (by kernel_rfl) ?_
  refine W_nil ?_
  refine N_then ?_
  refine G_seq ?_
  refine G_seq ?_
  refine G_region ?_
  refine W_run 1 [(0, .slice p913 x911.length c914), (5, .int .i64 (-1)), (6, .int .i64 0), (7, .int .i64 1)] w929 (by kernel_rfl) ?_
  refine W_nil ?_
  refine N_then ?_
  obtain ⟨out969, hw970, hmo971⟩ := gx_bind hm
  refine G_meet (fun a w' => Mem [] w w' [] ∧ Sat Try.f22.ntmps [(5, .int .i64 out969.1), (6, .int .i64 out969.2)] a) ?_ ?_
  · refine G_block ?_
    refine G_while (σ := Int × Int × Int) (ρ := Int × Int) (fun s962 a w' => Mem [] w w' [] ∧ Sat Try.f22.ntmps [(0, .slice p913 x911.length c914), (5, .int .i64 s962.1), (6, .int .i64 s962.2.1), (7, .int .i64 s962.2.2)] a) hw970 (fun a ha => ⟨M930.pick [] (by kernel_rfl), ha.sub (by kernel_rfl)⟩) ?_
    clear hm
    intro s962 x963 hm hout964 a965 w966 ⟨M967, hS968⟩
    refine G_use hS968 ?_
    refine G_seq ?_
    refine G_seq ?_
    refine G_region ?_
    refine W_run 4 [(0, .slice p913 x911.length c914), (5, .int .i64 s962.1), (6, .int .i64 s962.2.1), (7, .int .i64 s962.2.2), (20, .bool (decide (s962.2.2 < (x911.length : Int))))] w966 (by kernel_rfl) ?_
    refine W_nil ?_
    refine N_then ?_
    rcases gx_bif hm with ⟨hc973, hm⟩ | ⟨hc973, hm⟩
    · refine G_cond_t (b := (decide (s962.2.2 < (x911.length : Int)))) hc973 (by kernel_rfl) ?_
      refine G_skip ?_
      refine N_then ?_
      refine G_seq ?_
      refine G_block ?_
      refine G_seq ?_
      refine G_quiet (by kernel_rfl) (by kernel_rfl) M967 ?_
      refine Z_runs [.slice p913 x911.length c914, .int .i64 s962.2.2] [(0, .slice p913 x911.length c914), (5, .int .i64 s962.1), (6, .int .i64 s962.2.1), (7, .int .i64 s962.2.2), (23, .slice p913 x911.length c914), (24, .int .i64 s962.2.2)] (fun w_ => by kernel_rfl) (by kernel_rfl) ?_
      obtain ⟨y974, hy974, hm⟩ := gx_bind hm
      refine Z_val (elemP p913 (s962.2.2.toNat * 4)) (by kernel_rfl) (fun w_ M_ => (E_index (E := encEvent) _ _ _ x911.length c914 .i64 s962.2.2 4 (y := y974) rfl (by kernel_rfl) (by kernel_rfl) (by kernel_rfl) (h915.mem0 M_) rfl hy974)) ?_
      refine Z_val (elemP p913 (s962.2.2.toNat * 4 + 0)) (by kernel_rfl) (fun w_ M_ => (E_fieldE (E := encEvent) _ _ 0 (s962.2.2.toNat * 4) 0 rfl (by kernel_rfl) (by kernel_rfl) (h915.mem0 M_) hy974)) ?_
      refine Z_val (.int .i64 y974.Tick) (by kernel_rfl) (fun w_ M_ => (E_loadE (E := encEvent) _ _ false 1 s962.2.2 0 (s962.2.2.toNat * 4 + 0) y974 (.int .i64 y974.Tick) rfl (by kernel_rfl) (by kernel_rfl) (by kernel_rfl) (h915.mem0 M_) hy974 rfl)) ?_
      refine Z_runs [.slice p913 x911.length c914, .int .i64 s962.2.2, .int .i64 (w64 (s962.2.2 - 1))] [(0, .slice p913 x911.length c914), (5, .int .i64 s962.1), (6, .int .i64 s962.2.1), (7, .int .i64 s962.2.2), (27, .int .i64 y974.Tick), (28, .slice p913 x911.length c914), (30, .int .i64 (w64 (s962.2.2 - 1)))] (fun w_ => by kernel_rfl) (by kernel_rfl) ?_
      obtain ⟨y975, hy975, hm⟩ := gx_bind hm
      refine Z_val (elemP p913 ((w64 (s962.2.2 - 1)).toNat * 4)) (by kernel_rfl) (fun w_ M_ => (E_index (E := encEvent) _ _ _ x911.length c914 .i64 (w64 (s962.2.2 - 1)) 4 (y := y975) rfl (by kernel_rfl) (by kernel_rfl) (by kernel_rfl) (h915.mem0 M_) rfl hy975)) ?_
      refine Z_val (elemP p913 ((w64 (s962.2.2 - 1)).toNat * 4 + 0)) (by kernel_rfl) (fun w_ M_ => (E_fieldE (E := encEvent) _ _ 0 ((w64 (s962.2.2 - 1)).toNat * 4) 0 rfl (by kernel_rfl) (by kernel_rfl) (h915.mem0 M_) hy975)) ?_
      refine Z_val (.int .i64 y975.Tick) (by kernel_rfl) (fun w_ M_ => (E_loadE (E := encEvent) _ _ false 1 (w64 (s962.2.2 - 1)) 0 ((w64 (s962.2.2 - 1)).toNat * 4 + 0) y975 (.int .i64 y975.Tick) rfl (by kernel_rfl) (by kernel_rfl) (by kernel_rfl) (h915.mem0 M_) hy975 rfl)) ?_
      refine Z_runs [.int .i64 (w64 (y974.Tick - y975.Tick)), .int .i64 (w64 (y974.Tick - y975.Tick))] [(0, .slice p913 x911.length c914), (5, .int .i64 s962.1), (6, .int .i64 s962.2.1), (7, .int .i64 s962.2.2), (8, .int .i64 (w64 (y974.Tick - y975.Tick)))] (fun w_ => by kernel_rfl) (by kernel_rfl) ?_
      refine Z_end fun w976 M977 => ?_
      refine N_then ?_
      refine G_seq ?_
      refine G_region ?_
      refine W_run 3 [(0, .slice p913 x911.length c914), (5, .int .i64 s962.1), (6, .int .i64 s962.2.1), (7, .int .i64 s962.2.2), (8, .int .i64 (w64 (y974.Tick - y975.Tick))), (37, .bool (decide ((w64 (y974.Tick - y975.Tick)) > s962.1)))] w976 (by kernel_rfl) ?_
      refine W_nil ?_
      refine N_then ?_
      obtain ⟨o979, ho980, hm981⟩ := gx_bind hm
      refine G_meet (fun a w' => Mem [] w w' [] ∧ Sat Try.f22.ntmps [(0, .slice p913 x911.length c914), (5, .int .i64 o979.1), (6, .int .i64 o979.2), (7, .int .i64 s962.2.2)] a) ?_ ?_
      · have hm := ho980
        rcases gx_bif hm with ⟨hc982, hm⟩ | ⟨hc982, hm⟩
        · refine G_cond_t (b := (decide ((w64 (y974.Tick - y975.Tick)) > s962.1))) hc982 (by kernel_rfl) ?_
          refine G_seq ?_
          refine G_region ?_
          refine W_run 2 [(0, .slice p913 x911.length c914), (5, .int .i64 (w64 (y974.Tick - y975.Tick))), (7, .int .i64 s962.2.2)] w976 (by kernel_rfl) ?_
          refine W_nil ?_
          refine N_then ?_
          refine G_region ?_
          refine W_run 2 [(0, .slice p913 x911.length c914), (5, .int .i64 (w64 (y974.Tick - y975.Tick))), (6, .int .i64 s962.2.2), (7, .int .i64 s962.2.2)] w976 (by kernel_rfl) ?_
          refine W_nil ?_
          obtain rfl := Option.some.inj hm
          exact N_meet fun a ha => ⟨M977.pick [] (by kernel_rfl), ha.sub (by kernel_rfl)⟩
        refine G_cond_f (b := (decide ((w64 (y974.Tick - y975.Tick)) > s962.1))) hc982 (by kernel_rfl) ?_
        refine G_skip ?_
        obtain rfl := Option.some.inj hm
        exact N_meet fun a ha => ⟨M977.pick [] (by kernel_rfl), ha.sub (by kernel_rfl)⟩
      intro a985 w983 ⟨M984, hS986⟩
      refine N_use hS986 ?_
      have hm := hm981
      refine N_block ?_
      refine N_then ?_
      refine G_region ?_
      refine W_run 3 [(0, .slice p913 x911.length c914), (5, .int .i64 o979.1), (6, .int .i64 o979.2), (7, .int .i64 (w64 (s962.2.2 + 1)))] w983 (by kernel_rfl) ?_
      refine W_nil ?_
      obtain rfl := Option.some.inj hm
      exact N_loop fun a ha => ⟨_, rfl, M984.pick [] (by kernel_rfl), ha.sub (by kernel_rfl)⟩
    refine G_cond_f (b := (decide (s962.2.2 < (x911.length : Int)))) hc973 (by kernel_rfl) ?_
    refine G_exit ?_
    refine N_then_exit ?_
    refine N_then_exit ?_
    refine N_block_eq ?_
    obtain rfl := Option.some.inj hm
    obtain rfl := hout964 _ rfl
    exact N_meet fun a ha => ⟨M967.pick [] (by kernel_rfl), ha.sub (by kernel_rfl)⟩
  intro a987 w988 ⟨M989, hS990⟩
  refine N_use hS990 ?_
  have hm := hmo971
  refine N_then ?_
  refine G_seq ?_
  refine G_region ?_
  refine W_run 5 [(2, .int .i64 out969.1), (3, .int .i64 out969.2), (4, .bool true)] w988 (by kernel_rfl) ?_
  refine W_nil ?_
  refine N_then ?_
  refine G_ret ?_
  obtain rfl := Option.some.inj hm
  refine N_ret [.int .i64 out969.1, .int .i64 out969.2, .bool true] (RVs_cons (RV_tmp (by kernel_rfl)) (RVs_cons (RV_tmp (by kernel_rfl)) (RVs_cons (RV_tmp (by kernel_rfl)) RVs_nil))) ?_
  exact ⟨rfl, M989.pick [] (by kernel_rfl)⟩
theorem c_i_LongestGap (w : World) (x1004 : List Event) (p1006 : Option Addr) (c1007 : Nat) (h1008 : rdS encEvent w x1004 p1006 c1007) {r : Int × Int × Bool} (hm : M.i_LongestGap x1004 = some r) :
    Calls Try.prog 23 #[.slice p1006 x1004.length c1007] w fun e w' => e = .returned (.tuple #[.int .i64 r.1, .int .i64 r.2.1, .bool r.2.2]) ∧ Mem [] w w' [] := by
  unfold M.i_LongestGap at hm
  refine C_enter Try.func23 rfl (by kernel_rfl) ?_
  have M0 := Mem.refl [] w
  refine G_seq ?_
  refine G_region ?_
  refine W_run 3 [(0, .slice p1006 x1004.length c1007)] w (by kernel_rfl) ?_
  refine W_nil ?_
  refine N_then ?_
  refine G_seq ?_
  refine G_seq ?_
  obtain ⟨o1014, ho1015, hm1016⟩ := gx_bind hm
  refine G_meet (fun a w' => Mem [] w w' [] ∧ Sat Try.f23.ntmps [(0, .slice p1006 x1004.length c1007), (16, .bool o1014)] a) ?_ ?_
  · have hm := ho1015
    refine G_region ?_
    refine W_run 1 [(0, .slice p1006 x1004.length c1007), (9, .slice p1006 x1004.length c1007)] w (by kernel_rfl) ?_
    obtain ⟨r1017, hr1017, hm⟩ := gx_bind hm
    refine W_call 20 #[.slice p1006 x1004.length c1007] (by kernel_rfl) (by kernel_rfl) ?_
    refine (c_i_IsRecord w x1004 p1006 c1007 (h1008.mem0 M0) hr1017).mono ?_
    rintro e_ w1018 ⟨rfl, K1019⟩
    have M1020 := M0.call0 K1019
    refine ⟨_, rfl, ?_⟩
    refine W_run 2 [(0, .slice p1006 x1004.length c1007), (12, .bool (!r1017))] w1018 (by kernel_rfl) ?_
    rcases gx_bif hm with ⟨hc1021, hm⟩ | ⟨hc1021, hm⟩
    · refine W_known 12 true (by kernel_rfl) hc1021 ?_
      refine W_run 4 [(0, .slice p1006 x1004.length c1007), (16, .bool true)] w1018 (by kernel_rfl) ?_
      refine W_nil ?_
      obtain rfl := Option.some.inj hm
      exact N_meet fun a ha => ⟨M1020.pick [] (by kernel_rfl), ha.sub (by kernel_rfl)⟩
    refine W_known 12 false (by kernel_rfl) hc1021 ?_
    refine W_run 4 [(0, .slice p1006 x1004.length c1007), (16, .bool (decide ((x1004.length : Int) < 2)))] w1018 (by kernel_rfl) ?_
    refine W_nil ?_
    obtain rfl := Option.some.inj hm
    exact N_meet fun a ha => ⟨M1020.pick [] (by kernel_rfl), ha.sub (by kernel_rfl)⟩
  intro a1024 w1022 ⟨M1023, hS1025⟩
  refine N_use hS1025 ?_
  have hm := hm1016
  refine N_then ?_
  rcases gx_bif hm with ⟨hc1026, hm⟩ | ⟨hc1026, hm⟩
  · refine G_cond_t (b := o1014) hc1026 (by kernel_rfl) ?_
    refine G_seq ?_
    refine G_region ?_
    refine W_run 3 [(2, .int .i64 0), (3, .int .i64 0), (4, .bool false)] w1022 (by kernel_rfl) ?_
    refine W_nil ?_
    refine N_then ?_
    refine G_ret ?_
    refine N_then_ret ?_
    obtain rfl := Option.some.inj hm
    refine N_ret [.int .i64 0, .int .i64 0, .bool false] (RVs_cons (RV_tmp (by kernel_rfl)) (RVs_cons (RV_tmp (by kernel_rfl)) (RVs_cons (RV_tmp (by kernel_rfl)) RVs_nil))) ?_
    exact ⟨rfl, M1023.pick [] (by kernel_rfl)⟩
  refine G_cond_f (b := o1014) hc1026 (by kernel_rfl) ?_
  refine G_skip ?_
  refine N_then ?_
  refine G_seq ?_
  refine G_region ?_
  refine W_run 2 [(0, .slice p1006 x1004.length c1007), (5, .int .i64 (-1)), (6, .int .i64 0)] w1022 (by kernel_rfl) ?_
  refine W_nil ?_
  refine N_then ?_
  refine G_seq ?_
  refine G_seq ?_
  refine G_region ?_
  refine W_run 1 [(0, .slice p1006 x1004.length c1007), (5, .int .i64 (-1)), (6, .int .i64 0), (7, .int .i64 1)] w1022 (by kernel_rfl) ?_
  refine W_nil ?_
  refine N_then ?_
  obtain ⟨out1062, hw1063, hmo1064⟩ := gx_bind hm
  refine G_meet (fun a w' => Mem [] w w' [] ∧ Sat Try.f23.ntmps [(5, .int .i64 out1062.1), (6, .int .i64 out1062.2)] a) ?_ ?_
  · refine G_block ?_
    refine G_while (σ := Int × Int × Int) (ρ := Int × Int) (fun s1055 a w' => Mem [] w w' [] ∧ Sat Try.f23.ntmps [(0, .slice p1006 x1004.length c1007), (5, .int .i64 s1055.1), (6, .int .i64 s1055.2.1), (7, .int .i64 s1055.2.2)] a) hw1063 (fun a ha => ⟨M1023.pick [] (by kernel_rfl), ha.sub (by kernel_rfl)⟩) ?_
    clear hm
    intro s1055 x1056 hm hout1057 a1058 w1059 ⟨M1060, hS1061⟩
    refine G_use hS1061 ?_
    refine G_seq ?_
    refine G_seq ?_
    refine G_region ?_
    refine W_run 4 [(0, .slice p1006 x1004.length c1007), (5, .int .i64 s1055.1), (6, .int .i64 s1055.2.1), (7, .int .i64 s1055.2.2), (20, .bool (decide (s1055.2.2 < (x1004.length : Int))))] w1059 (by kernel_rfl) ?_
    refine W_nil ?_
    refine N_then ?_
    rcases gx_bif hm with ⟨hc1066, hm⟩ | ⟨hc1066, hm⟩
    · refine G_cond_t (b := (decide (s1055.2.2 < (x1004.length : Int)))) hc1066 (by kernel_rfl) ?_
      refine G_skip ?_
      refine N_then ?_
      refine G_seq ?_
      refine G_block ?_
      refine G_seq ?_
      refine G_quiet (by kernel_rfl) (by kernel_rfl) M1060 ?_
      refine Z_runs [.slice p1006 x1004.length c1007, .int .i64 s1055.2.2] [(0, .slice p1006 x1004.length c1007), (5, .int .i64 s1055.1), (6, .int .i64 s1055.2.1), (7, .int .i64 s1055.2.2), (23, .slice p1006 x1004.length c1007), (24, .int .i64 s1055.2.2)] (fun w_ => by kernel_rfl) (by kernel_rfl) ?_
      obtain ⟨y1067, hy1067, hm⟩ := gx_bind hm
      refine Z_val (elemP p1006 (s1055.2.2.toNat * 4)) (by kernel_rfl) (fun w_ M_ => (E_index (E := encEvent) _ _ _ x1004.length c1007 .i64 s1055.2.2 4 (y := y1067) rfl (by kernel_rfl) (by kernel_rfl) (by kernel_rfl) (h1008.mem0 M_) rfl hy1067)) ?_
      refine Z_val (elemP p1006 (s1055.2.2.toNat * 4 + 0)) (by kernel_rfl) (fun w_ M_ => (E_fieldE (E := encEvent) _ _ 0 (s1055.2.2.toNat * 4) 0 rfl (by kernel_rfl) (by kernel_rfl) (h1008.mem0 M_) hy1067)) ?_
      refine Z_val (.int .i64 y1067.Tick) (by kernel_rfl) (fun w_ M_ => (E_loadE (E := encEvent) _ _ false 1 s1055.2.2 0 (s1055.2.2.toNat * 4 + 0) y1067 (.int .i64 y1067.Tick) rfl (by kernel_rfl) (by kernel_rfl) (by kernel_rfl) (h1008.mem0 M_) hy1067 rfl)) ?_
      refine Z_runs [.slice p1006 x1004.length c1007, .int .i64 s1055.2.2, .int .i64 (w64 (s1055.2.2 - 1))] [(0, .slice p1006 x1004.length c1007), (5, .int .i64 s1055.1), (6, .int .i64 s1055.2.1), (7, .int .i64 s1055.2.2), (27, .int .i64 y1067.Tick), (28, .slice p1006 x1004.length c1007), (30, .int .i64 (w64 (s1055.2.2 - 1)))] (fun w_ => by kernel_rfl) (by kernel_rfl) ?_
      obtain ⟨y1068, hy1068, hm⟩ := gx_bind hm
      refine Z_val (elemP p1006 ((w64 (s1055.2.2 - 1)).toNat * 4)) (by kernel_rfl) (fun w_ M_ => (E_index (E := encEvent) _ _ _ x1004.length c1007 .i64 (w64 (s1055.2.2 - 1)) 4 (y := y1068) rfl (by kernel_rfl) (by kernel_rfl) (by kernel_rfl) (h1008.mem0 M_) rfl hy1068)) ?_
      refine Z_val (elemP p1006 ((w64 (s1055.2.2 - 1)).toNat * 4 + 0)) (by kernel_rfl) (fun w_ M_ => (E_fieldE (E := encEvent) _ _ 0 ((w64 (s1055.2.2 - 1)).toNat * 4) 0 rfl (by kernel_rfl) (by kernel_rfl) (h1008.mem0 M_) hy1068)) ?_
      refine Z_val (.int .i64 y1068.Tick) (by kernel_rfl) (fun w_ M_ => (E_loadE (E := encEvent) _ _ false 1 (w64 (s1055.2.2 - 1)) 0 ((w64 (s1055.2.2 - 1)).toNat * 4 + 0) y1068 (.int .i64 y1068.Tick) rfl (by kernel_rfl) (by kernel_rfl) (by kernel_rfl) (h1008.mem0 M_) hy1068 rfl)) ?_
      refine Z_runs [.int .i64 (w64 (y1067.Tick - y1068.Tick)), .int .i64 (w64 (y1067.Tick - y1068.Tick))] [(0, .slice p1006 x1004.length c1007), (5, .int .i64 s1055.1), (6, .int .i64 s1055.2.1), (7, .int .i64 s1055.2.2), (8, .int .i64 (w64 (y1067.Tick - y1068.Tick)))] (fun w_ => by kernel_rfl) (by kernel_rfl) ?_
      refine Z_end fun w1069 M1070 => ?_
      refine N_then ?_
      refine G_seq ?_
      refine G_region ?_
      refine W_run 3 [(0, .slice p1006 x1004.length c1007), (5, .int .i64 s1055.1), (6, .int .i64 s1055.2.1), (7, .int .i64 s1055.2.2), (8, .int .i64 (w64 (y1067.Tick - y1068.Tick))), (37, .bool (decide ((w64 (y1067.Tick - y1068.Tick)) > s1055.1)))] w1069 (by kernel_rfl) ?_
      refine W_nil ?_
      refine N_then ?_
      obtain ⟨o1072, ho1073, hm1074⟩ := gx_bind hm
      refine G_meet (fun a w' => Mem [] w w' [] ∧ Sat Try.f23.ntmps [(0, .slice p1006 x1004.length c1007), (5, .int .i64 o1072.1), (6, .int .i64 o1072.2), (7, .int .i64 s1055.2.2)] a) ?_ ?_
      · have hm := ho1073
        rcases gx_bif hm with ⟨hc1075, hm⟩ | ⟨hc1075, hm⟩
        · refine G_cond_t (b := (decide ((w64 (y1067.Tick - y1068.Tick)) > s1055.1))) hc1075 (by kernel_rfl) ?_
          refine G_region ?_
          refine W_run 4 [(0, .slice p1006 x1004.length c1007), (5, .int .i64 (w64 (y1067.Tick - y1068.Tick))), (6, .int .i64 s1055.2.2), (7, .int .i64 s1055.2.2)] w1069 (by kernel_rfl) ?_
          refine W_nil ?_
          obtain rfl := Option.some.inj hm
          exact N_meet fun a ha => ⟨M1070.pick [] (by kernel_rfl), ha.sub (by kernel_rfl)⟩
        refine G_cond_f (b := (decide ((w64 (y1067.Tick - y1068.Tick)) > s1055.1))) hc1075 (by kernel_rfl) ?_
        refine G_skip ?_
        obtain rfl := Option.some.inj hm
        exact N_meet fun a ha => ⟨M1070.pick [] (by kernel_rfl), ha.sub (by kernel_rfl)⟩
      intro a1078 w1076 ⟨M1077, hS1079⟩
      refine N_use hS1079 ?_
      have hm := hm1074
      refine N_block ?_
      refine N_then ?_
      refine G_region ?_
      refine W_run 3 [(0, .slice p1006 x1004.length c1007), (5, .int .i64 o1072.1), (6, .int .i64 o1072.2), (7, .int .i64 (w64 (s1055.2.2 + 1)))] w1076 (by kernel_rfl) ?_
      refine W_nil ?_
      obtain rfl := Option.some.inj hm
      exact N_loop fun a ha => ⟨_, rfl, M1077.pick [] (by kernel_rfl), ha.sub (by kernel_rfl)⟩
    refine G_cond_f (b := (decide (s1055.2.2 < (x1004.length : Int)))) hc1066 (by kernel_rfl) ?_
    refine G_exit ?_
    refine N_then_exit ?_
    refine N_then_exit ?_
    refine N_block_eq ?_
    obtain rfl := Option.some.inj hm
    obtain rfl := hout1057 _ rfl
    exact N_meet fun a ha => ⟨M1060.pick [] (by kernel_rfl), ha.sub (by kernel_rfl)⟩
  intro a1080 w1081 ⟨M1082, hS1083⟩
  refine N_use hS1083 ?_
  have hm := hmo1064
  refine N_then ?_
  refine G_seq ?_
  refine G_region ?_
  refine W_run 5 [(2, .int .i64 out1062.1), (3, .int .i64 out1062.2), (4, .bool true)] w1081 (by kernel_rfl) ?_
  refine W_nil ?_
  refine N_then ?_
  refine G_ret ?_
  obtain rfl := Option.some.inj hm
  refine N_ret [.int .i64 out1062.1, .int .i64 out1062.2, .bool true] (RVs_cons (RV_tmp (by kernel_rfl)) (RVs_cons (RV_tmp (by kernel_rfl)) (RVs_cons (RV_tmp (by kernel_rfl)) RVs_nil))) ?_
  exact ⟨rfl, M1082.pick [] (by kernel_rfl)⟩
theorem c_l_FnExactLongestGap (w : World) (x892 : List Event) (p894 : Option Addr) (c895 : Nat) (h896 : rdS encEvent w x892 p894 c895) {r : Bool} (hm : M.l_FnExactLongestGap x892 = some r) :
    Calls Try.prog 5 #[.slice p894 x892.length c895] w fun e w' => e = .returned (.bool r) ∧ Mem [] w w' [] := by
  unfold M.l_FnExactLongestGap at hm
  refine C_enter Try.func5 rfl (by kernel_rfl) ?_
  have M0 := Mem.refl [] w
  refine G_seq ?_
  refine G_region ?_
  refine W_run 1 [(0, .slice p894 x892.length c895)] w (by kernel_rfl) ?_
  refine W_nil ?_
  refine N_then ?_
  refine G_seq ?_
  refine G_region ?_
  refine W_run 1 [(0, .slice p894 x892.length c895), (3, .int .i64 1048576)] w (by kernel_rfl) ?_
  refine W_nil ?_
  refine N_then ?_
  refine G_seq ?_
  refine G_region ?_
  refine W_run 2 [(0, .slice p894 x892.length c895), (3, .int .i64 1048576), (11, .slice p894 x892.length c895), (12, .int .i64 1048576)] w (by kernel_rfl) ?_
  obtain ⟨r897, hr897, hm⟩ := gx_bind hm
  refine W_call 17 #[.slice p894 x892.length c895, .int .i64 1048576] (by kernel_rfl) (by kernel_rfl) ?_
  refine (c_l_szEventS w x892 p894 c895 (h896.mem0 M0) 1048576 hr897).mono ?_
  rintro e_ w898 ⟨rfl, K899⟩
  have M900 := M0.call0 K899
  refine ⟨_, rfl, ?_⟩
  refine W_run 1 [(0, .slice p894 x892.length c895), (3, .int .i64 r897)] w898 (by kernel_rfl) ?_
  refine W_nil ?_
  refine N_then ?_
  refine G_seq ?_
  refine G_seq ?_
  refine G_region ?_
  refine W_run 2 [(0, .slice p894 x892.length c895), (15, .bool (decide (r897 < 0)))] w898 (by kernel_rfl) ?_
  refine W_nil ?_
  refine N_then ?_
  rcases gx_bif hm with ⟨hc901, hm⟩ | ⟨hc901, hm⟩
  · refine G_cond_t (b := (decide (r897 < 0))) hc901 (by kernel_rfl) ?_
    refine G_seq ?_
    refine G_region ?_
    refine W_run 1 [(2, .bool true)] w898 (by kernel_rfl) ?_
    refine W_nil ?_
    refine N_then ?_
    refine G_ret ?_
    refine N_then_ret ?_
    obtain rfl := Option.some.inj hm
    refine N_ret [.bool true] (RVs_cons (RV_tmp (by kernel_rfl)) RVs_nil) ?_
    exact ⟨rfl, M900.pick [] (by kernel_rfl)⟩
  refine G_cond_f (b := (decide (r897 < 0))) hc901 (by kernel_rfl) ?_
  refine G_skip ?_
  refine N_then ?_
  refine G_seq ?_
  refine G_region ?_
  refine W_run 1 [(0, .slice p894 x892.length c895), (17, .slice p894 x892.length c895)] w898 (by kernel_rfl) ?_
  obtain ⟨r902, hr902, hm⟩ := gx_bind hm
  refine W_call 19 #[.slice p894 x892.length c895] (by kernel_rfl) (by kernel_rfl) ?_
  refine (c_l_toEventS w898 x892 p894 c895 (h896.mem0 M900) hr902).mono ?_
  rintro e_ w908 ⟨p904, c905, sg906, rfl, ho907, K909⟩
  have M910 := M900.call K909
  refine ⟨_, rfl, ?_⟩
  obtain ⟨r991, hr991, hm⟩ := gx_bind hm
  refine W_call 22 #[.slice p904 r902.length c905] (by kernel_rfl) (by kernel_rfl) ?_
  refine (c_s_LongestGap w908 r902 p904 c905 (ho907.rd M910 0 (by kernel_rfl)) hr991).mono ?_
  rintro e_ w992 ⟨rfl, K993⟩
  have M994 := M910.call0 K993
  refine ⟨_, rfl, ?_⟩
  refine W_run 7 [(0, .slice p894 x892.length c895), (4, .int .i64 r991.1), (5, .int .i64 r991.2.1), (6, .bool r991.2.2)] w992 (by kernel_rfl) ?_
  refine W_nil ?_
  refine N_then ?_
  refine G_seq ?_
  refine G_region ?_
  refine W_run 1 [(0, .slice p894 x892.length c895), (4, .int .i64 r991.1), (5, .int .i64 r991.2.1), (6, .bool r991.2.2), (23, .slice p894 x892.length c895)] w992 (by kernel_rfl) ?_
  obtain ⟨r995, hr995, hm⟩ := gx_bind hm
  refine W_call 19 #[.slice p894 x892.length c895] (by kernel_rfl) (by kernel_rfl) ?_
  refine (c_l_toEventS w992 x892 p894 c895 (h896.mem0 M994) hr995).mono ?_
  rintro e_ w1001 ⟨p997, c998, sg999, rfl, ho1000, K1002⟩
  have M1003 := M994.call K1002
  refine ⟨_, rfl, ?_⟩
  refine W_run 1 [(0, .slice p894 x892.length c895), (4, .int .i64 r991.1), (5, .int .i64 r991.2.1), (6, .bool r991.2.2), (7, .slice p997 r995.length c998)] w1001 (by kernel_rfl) ?_
  refine W_nil ?_
  refine N_then ?_
  refine G_seq ?_
  refine G_region ?_
  refine W_run 1 [(0, .slice p894 x892.length c895), (4, .int .i64 r991.1), (5, .int .i64 r991.2.1), (6, .bool r991.2.2), (7, .slice p997 r995.length c998), (26, .slice p997 r995.length c998)] w1001 (by kernel_rfl) ?_
  obtain ⟨r1084, hr1084, hm⟩ := gx_bind hm
  refine W_call 23 #[.slice p997 r995.length c998] (by kernel_rfl) (by kernel_rfl) ?_
  refine (c_i_LongestGap w1001 r995 p997 c998 (ho1000.rd M1003 1 (by kernel_rfl)) hr1084).mono ?_
  rintro e_ w1085 ⟨rfl, K1086⟩
  have M1087 := M1003.call0 K1086
  refine ⟨_, rfl, ?_⟩
  refine W_run 7 [(0, .slice p894 x892.length c895), (4, .int .i64 r991.1), (5, .int .i64 r991.2.1), (6, .bool r991.2.2), (7, .slice p997 r995.length c998), (8, .int .i64 r1084.1), (9, .int .i64 r1084.2.1), (10, .bool r1084.2.2)] w1085 (by kernel_rfl) ?_
  refine W_nil ?_
  refine N_then ?_
  refine G_seq ?_
  refine G_seq ?_
  obtain ⟨o1090, ho1091, hm1092⟩ := gx_bind hm
  refine G_meet (fun a w' => Mem [] w w' [sg999] ∧ Sat Try.f5.ntmps [(0, .slice p894 x892.length c895), (7, .slice p997 r995.length c998), (43, .bool o1090)] a) ?_ ?_
  · have hm := ho1091
    refine G_region ?_
    refine W_run 4 [(0, .slice p894 x892.length c895), (5, .int .i64 r991.2.1), (6, .bool r991.2.2), (7, .slice p997 r995.length c998), (9, .int .i64 r1084.2.1), (10, .bool r1084.2.2), (34, .bool (r1084.1 != r991.1))] w1085 (by kernel_rfl) ?_
    rcases gx_bif hm with ⟨hc1093, hm⟩ | ⟨hc1093, hm⟩
    · refine W_known 34 true (by kernel_rfl) hc1093 ?_
      refine W_run 9 [(0, .slice p894 x892.length c895), (7, .slice p997 r995.length c998), (43, .bool true)] w1085 (by kernel_rfl) ?_
      refine W_nil ?_
      obtain rfl := Option.some.inj hm
      exact N_meet fun a ha => ⟨M1087.pick [1] (by kernel_rfl), ha.sub (by kernel_rfl)⟩
    refine W_known 34 false (by kernel_rfl) hc1093 ?_
    refine W_run 5 [(0, .slice p894 x892.length c895), (6, .bool r991.2.2), (7, .slice p997 r995.length c998), (10, .bool r1084.2.2), (39, .bool (r1084.2.1 != r991.2.1))] w1085 (by kernel_rfl) ?_
    rcases gx_bif hm with ⟨hc1094, hm⟩ | ⟨hc1094, hm⟩
    · refine W_known 39 true (by kernel_rfl) hc1094 ?_
      refine W_run 4 [(0, .slice p894 x892.length c895), (7, .slice p997 r995.length c998), (43, .bool true)] w1085 (by kernel_rfl) ?_
      refine W_nil ?_
      obtain rfl := Option.some.inj hm
      exact N_meet fun a ha => ⟨M1087.pick [1] (by kernel_rfl), ha.sub (by kernel_rfl)⟩
    refine W_known 39 false (by kernel_rfl) hc1094 ?_
    refine W_run 4 [(0, .slice p894 x892.length c895), (7, .slice p997 r995.length c998), (43, .bool (!(r1084.2.2 == r991.2.2)))] w1085 (by kernel_rfl) ?_
    refine W_nil ?_
    obtain rfl := Option.some.inj hm
    exact N_meet fun a ha => ⟨M1087.pick [1] (by kernel_rfl), ha.sub (by kernel_rfl)⟩
  intro a1097 w1095 ⟨M1096, hS1098⟩
  refine N_use hS1098 ?_
  have hm := hm1092
  refine N_then ?_
  rcases gx_bif hm with ⟨hc1099, hm⟩ | ⟨hc1099, hm⟩
  · refine G_cond_t (b := o1090) hc1099 (by kernel_rfl) ?_
    refine G_seq ?_
    refine G_region ?_
    refine W_run 1 [(2, .bool false)] w1095 (by kernel_rfl) ?_
    refine W_nil ?_
    refine N_then ?_
    refine G_ret ?_
    refine N_then_ret ?_
    obtain rfl := Option.some.inj hm
    refine N_ret [.bool false] (RVs_cons (RV_tmp (by kernel_rfl)) RVs_nil) ?_
    exact ⟨rfl, M1096.pick [] (by kernel_rfl)⟩
  refine G_cond_f (b := o1090) hc1099 (by kernel_rfl) ?_
  refine G_skip ?_
  refine N_then ?_
  refine G_seq ?_
  refine G_seq ?_
  refine G_region ?_
  refine W_run 2 [(44, .slice p997 r995.length c998), (45, .slice p894 x892.length c895)] w1095 (by kernel_rfl) ?_
  obtain ⟨r1100, hr1100, hm⟩ := gx_bind hm
  refine W_call 19 #[.slice p894 x892.length c895] (by kernel_rfl) (by kernel_rfl) ?_
  refine (c_l_toEventS w1095 x892 p894 c895 (h896.mem0 M1096) hr1100).mono ?_
  rintro e_ w1106 ⟨p1102, c1103, sg1104, rfl, ho1105, K1107⟩
  have M1108 := M1096.call K1107
  refine ⟨_, rfl, ?_⟩
  obtain ⟨r1109, hr1109, hm⟩ := gx_bind hm
  refine W_call 21 #[.slice p997 r995.length c998, .slice p1102 r1100.length c1103] (by kernel_rfl) (by kernel_rfl) ?_
  refine (c_l_eqEventS w1106 r995 p997 c998 (ho1000.rd M1108 0 (by kernel_rfl)) r1100 p1102 c1103 (ho1105.rd M1108 1 (by kernel_rfl)) hr1109).mono ?_
  rintro e_ w1110 ⟨rfl, K1111⟩
  have M1112 := M1108.call0 K1111
  refine ⟨_, rfl, ?_⟩
  refine W_run 1 [(48, .bool (!r1109))] w1110 (by kernel_rfl) ?_
  refine W_nil ?_
  refine N_then ?_
  rcases gx_bif hm with ⟨hc1113, hm⟩ | ⟨hc1113, hm⟩
  · refine G_cond_t (b := (!r1109)) hc1113 (by kernel_rfl) ?_
    refine G_seq ?_
    refine G_region ?_
    refine W_run 1 [(2, .bool false)] w1110 (by kernel_rfl) ?_
    refine W_nil ?_
    refine N_then ?_
    refine G_ret ?_
    refine N_then_ret ?_
    obtain rfl := Option.some.inj hm
    refine N_ret [.bool false] (RVs_cons (RV_tmp (by kernel_rfl)) RVs_nil) ?_
    exact ⟨rfl, M1112.pick [] (by kernel_rfl)⟩
  refine G_cond_f (b := (!r1109)) hc1113 (by kernel_rfl) ?_
  refine G_skip ?_
  refine N_then ?_
  refine G_seq ?_
  refine G_region ?_
  refine W_run 1 [(2, .bool true)] w1110 (by kernel_rfl) ?_
  refine W_nil ?_
  refine N_then ?_
  refine G_ret ?_
  obtain rfl := Option.some.inj hm
  refine N_ret [.bool true] (RVs_cons (RV_tmp (by kernel_rfl)) RVs_nil) ?_
  exact ⟨rfl, M1112.pick [] (by kernel_rfl)⟩
theorem c_s_FirstWith (w : World) (x1136 : List Event) (p1138 : Option Addr) (c1139 : Nat) (h1140 : rdS encEvent w x1136 p1138 c1139) (x1141 : ByteArray) (x1142 : Int) {r : Int × Bool} (hm : M.s_FirstWith x1136 x1141 x1142 = some r) :
    Calls Try.prog 24 #[.slice p1138 x1136.length c1139, .string x1141, .int .i64 x1142] w fun e w' => e = .returned (.tuple #[.int .i64 r.1, .bool r.2]) ∧ Mem [] w w' [] := by
  unfold M.s_FirstWith at hm
  refine C_enter Try.func24 rfl (by kernel_rfl) ?_
  have M0 := Mem.refl [] w
  refine G_seq ?_
  refine G_region ?_
  refine W_run 2 [(0, .slice p1138 x1136.length c1139), (1, .string x1141), (2, .int .i64 x1142)] w (by kernel_rfl) ?_
  refine W_nil ?_
  refine N_then ?_
  refine G_seq ?_
  refine G_seq ?_
  obtain ⟨o1152, ho1153, hm1154⟩ := gx_bind hm
  refine G_meet (fun a w' => Mem [] w w' [] ∧ Sat Try.f24.ntmps [(0, .slice p1138 x1136.length c1139), (1, .string x1141), (2, .int .i64 x1142), (16, .bool o1152)] a) ?_ ?_
  · have hm := ho1153
    refine G_region ?_
    refine W_run 1 [(0, .slice p1138 x1136.length c1139), (1, .string x1141), (2, .int .i64 x1142), (9, .slice p1138 x1136.length c1139)] w (by kernel_rfl) ?_
    obtain ⟨r1155, hr1155, hm⟩ := gx_bind hm
    refine W_call 56 #[.slice p1138 x1136.length c1139] (by kernel_rfl) (by kernel_rfl) ?_
    refine (c_s_l22Good w x1136 p1138 c1139 (h1140.mem0 M0) hr1155).mono ?_
    rintro e_ w1156 ⟨rfl, K1157⟩
    have M1158 := M0.call0 K1157
    refine ⟨_, rfl, ?_⟩
    refine W_run 2 [(0, .slice p1138 x1136.length c1139), (1, .string x1141), (2, .int .i64 x1142), (12, .bool (!r1155))] w1156 (by kernel_rfl) ?_
    rcases gx_bif hm with ⟨hc1159, hm⟩ | ⟨hc1159, hm⟩
    · refine W_known 12 true (by kernel_rfl) hc1159 ?_
      refine W_run 4 [(0, .slice p1138 x1136.length c1139), (1, .string x1141), (2, .int .i64 x1142), (16, .bool true)] w1156 (by kernel_rfl) ?_
      refine W_nil ?_
      obtain rfl := Option.some.inj hm
      exact N_meet fun a ha => ⟨M1158.pick [] (by kernel_rfl), ha.sub (by kernel_rfl)⟩
    refine W_known 12 false (by kernel_rfl) hc1159 ?_
    refine W_run 1 [(0, .slice p1138 x1136.length c1139), (1, .string x1141), (2, .int .i64 x1142), (12, .bool false), (13, .int .i64 x1142)] w1156 (by kernel_rfl) ?_
    obtain ⟨r1160, hr1160, hm⟩ := gx_bind hm
    refine W_call 58 #[.int .i64 x1142, .int .i64 0, .int .i64 65535] (by kernel_rfl) (by kernel_rfl) ?_
    refine (c_s_l1In w1156 x1142 0 65535 hr1160).mono ?_
    rintro e_ w1161 ⟨rfl, K1162⟩
    have M1163 := M1158.call0 K1162
    refine ⟨_, rfl, ?_⟩
    refine W_run 2 [(0, .slice p1138 x1136.length c1139), (1, .string x1141), (2, .int .i64 x1142), (16, .bool (!r1160))] w1161 (by kernel_rfl) ?_
    refine W_nil ?_
    obtain rfl := Option.some.inj hm
    exact N_meet fun a ha => ⟨M1163.pick [] (by kernel_rfl), ha.sub (by kernel_rfl)⟩
  intro a1166 w1164 ⟨M1165, hS1167⟩
  refine N_use hS1167 ?_
  have hm := hm1154
  refine N_then ?_
  rcases gx_bif hm with ⟨hc1168, hm⟩ | ⟨hc1168, hm⟩
  · refine G_cond_t (b := o1152) hc1168 (by kernel_rfl) ?_
    refine G_seq ?_
    refine G_region ?_
    refine W_run 2 [(6, .int .i64 0), (7, .bool false)] w1164 (by kernel_rfl) ?_
    refine W_nil ?_
    refine N_then ?_
    refine G_ret ?_
    refine N_then_ret ?_
    obtain rfl := Option.some.inj hm
    refine N_ret [.int .i64 0, .bool false] (RVs_cons (RV_tmp (by kernel_rfl)) (RVs_cons (RV_tmp (by kernel_rfl)) RVs_nil)) ?_
    exact ⟨rfl, M1165.pick [] (by kernel_rfl)⟩
  refine G_cond_f (b := o1152) hc1168 (by kernel_rfl) ?_
  refine G_skip ?_
  refine N_then ?_
  refine G_seq ?_
  refine G_seq ?_
  refine G_region ?_
  refine W_run 1 [(0, .slice p1138 x1136.length c1139), (1, .string x1141), (2, .int .i64 x1142), (8, .int .i64 0)] w1164 (by kernel_rfl) ?_
  refine W_nil ?_
  refine N_then ?_
  obtain ⟨out1206, hw1207, hmo1208⟩ := gx_bind hm
  refine G_meet (fun a w' => ∃ (o1209 : Unit), out1206 = .inl o1209 ∧ Mem [] w w' [] ∧ Sat Try.f24.ntmps [] a) ?_ ?_
  · refine G_block ?_
    refine G_while (σ := Int) (ρ := (Unit) ⊕ (Int × Bool)) (fun s1199 a w' => Mem [] w w' [] ∧ Sat Try.f24.ntmps [(0, .slice p1138 x1136.length c1139), (1, .string x1141), (2, .int .i64 x1142), (8, .int .i64 s1199)] a) hw1207 (fun a ha => ⟨M1165.pick [] (by kernel_rfl), ha.sub (by kernel_rfl)⟩) ?_
    clear hm
    intro s1199 x1200 hm hout1201 a1202 w1203 ⟨M1204, hS1205⟩
    refine G_use hS1205 ?_
    refine G_seq ?_
    refine G_seq ?_
    refine G_region ?_
    refine W_run 4 [(0, .slice p1138 x1136.length c1139), (1, .string x1141), (2, .int .i64 x1142), (8, .int .i64 s1199), (20, .bool (decide (s1199 < (x1136.length : Int))))] w1203 (by kernel_rfl) ?_
    refine W_nil ?_
    refine N_then ?_
    rcases gx_bif hm with ⟨hc1210, hm⟩ | ⟨hc1210, hm⟩
    · refine G_cond_t (b := (decide (s1199 < (x1136.length : Int)))) hc1210 (by kernel_rfl) ?_
      refine G_skip ?_
      refine N_then ?_
      refine G_seq ?_
      refine G_block ?_
      refine G_seq ?_
      obtain ⟨o1214, ho1215, hm1216⟩ := gx_bind hm
      refine G_meet (fun a w' => Mem [] w w' [] ∧ Sat Try.f24.ntmps [(0, .slice p1138 x1136.length c1139), (1, .string x1141), (2, .int .i64 x1142), (8, .int .i64 s1199), (38, .bool o1214)] a) ?_ ?_
      · have hm := ho1215
        refine G_region ?_
        refine W_run 2 [(0, .slice p1138 x1136.length c1139), (1, .string x1141), (2, .int .i64 x1142), (8, .int .i64 s1199), (23, .slice p1138 x1136.length c1139), (24, .int .i64 s1199)] w1203 (by kernel_rfl) ?_
        obtain ⟨y1217, hy1217, hm⟩ := gx_bind hm
        refine W_val (elemP p1138 (s1199.toNat * 4)) w1203 (by kernel_rfl) (E_index (E := encEvent) _ _ _ x1136.length c1139 .i64 s1199 4 (y := y1217) rfl (by kernel_rfl) (by kernel_rfl) (by kernel_rfl) (h1140.mem0 M1204) rfl hy1217) ?_
        refine W_val (elemP p1138 (s1199.toNat * 4 + 2)) w1203 (by kernel_rfl) (E_fieldE (E := encEvent) _ _ 2 (s1199.toNat * 4) 2 rfl (by kernel_rfl) (by kernel_rfl) (h1140.mem0 M1204) hy1217) ?_
        refine W_val (.string y1217.Kind) w1203 (by kernel_rfl) (E_loadE (E := encEvent) _ _ false 1 s1199 2 (s1199.toNat * 4 + 2) y1217 (.string y1217.Kind) rfl (by kernel_rfl) (by kernel_rfl) (by kernel_rfl) (h1140.mem0 M1204) hy1217 rfl) ?_
        refine W_run 3 [(0, .slice p1138 x1136.length c1139), (1, .string x1141), (2, .int .i64 x1142), (8, .int .i64 s1199), (30, .bool (y1217.Kind.toList == x1141.toList))] w1203 (by kernel_rfl) ?_
        rcases gx_bif hm with ⟨hc1218, hm⟩ | ⟨hc1218, hm⟩
        · refine W_known 30 true (by kernel_rfl) hc1218 ?_
          refine W_run 2 [(0, .slice p1138 x1136.length c1139), (1, .string x1141), (2, .int .i64 x1142), (8, .int .i64 s1199), (30, .bool true), (31, .slice p1138 x1136.length c1139), (32, .int .i64 s1199)] w1203 (by kernel_rfl) ?_
          obtain ⟨y1219, hy1219, hm⟩ := gx_bind hm
          refine W_val (elemP p1138 (s1199.toNat * 4)) w1203 (by kernel_rfl) (E_index (E := encEvent) _ _ _ x1136.length c1139 .i64 s1199 4 (y := y1219) rfl (by kernel_rfl) (by kernel_rfl) (by kernel_rfl) (h1140.mem0 M1204) rfl hy1219) ?_
          refine W_val (elemP p1138 (s1199.toNat * 4 + 3)) w1203 (by kernel_rfl) (E_fieldE (E := encEvent) _ _ 3 (s1199.toNat * 4) 3 rfl (by kernel_rfl) (by kernel_rfl) (h1140.mem0 M1204) hy1219) ?_
          refine W_val (.int .i64 y1219.Value) w1203 (by kernel_rfl) (E_loadE (E := encEvent) _ _ false 1 s1199 3 (s1199.toNat * 4 + 3) y1219 (.int .i64 y1219.Value) rfl (by kernel_rfl) (by kernel_rfl) (by kernel_rfl) (h1140.mem0 M1204) hy1219 rfl) ?_
          refine W_run 3 [(0, .slice p1138 x1136.length c1139), (1, .string x1141), (2, .int .i64 x1142), (8, .int .i64 s1199), (38, .bool (decide (y1219.Value ≥ x1142)))] w1203 (by kernel_rfl) ?_
          refine W_nil ?_
          obtain rfl := Option.some.inj hm
          exact N_meet fun a ha => ⟨M1204.pick [] (by kernel_rfl), ha.sub (by kernel_rfl)⟩
        refine W_known 30 false (by kernel_rfl) hc1218 ?_
        refine W_run 8 [(0, .slice p1138 x1136.length c1139), (1, .string x1141), (2, .int .i64 x1142), (8, .int .i64 s1199), (38, .bool false)] w1203 (by kernel_rfl) ?_
        refine W_nil ?_
        obtain rfl := Option.some.inj hm
        exact N_meet fun a ha => ⟨M1204.pick [] (by kernel_rfl), ha.sub (by kernel_rfl)⟩
      intro a1222 w1220 ⟨M1221, hS1223⟩
      refine N_use hS1223 ?_
      have hm := hm1216
      refine N_then ?_
      rcases gx_bif hm with ⟨hc1224, hm⟩ | ⟨hc1224, hm⟩
      · refine G_cond_t (b := o1214) hc1224 (by kernel_rfl) ?_
        refine G_seq ?_
        refine G_region ?_
        refine W_run 3 [(6, .int .i64 s1199), (7, .bool true)] w1220 (by kernel_rfl) ?_
        refine W_nil ?_
        refine N_then ?_
        refine G_ret ?_
        refine N_block_ret ?_
        refine N_then_ret ?_
        refine N_then_ret ?_
        obtain rfl := Option.some.inj hm
        obtain rfl := hout1201 _ rfl
        have hm := hmo1208; simp only [Sum.elim_inr] at hm
        refine N_block_ret ?_
        refine N_meet_ret ?_
        refine N_then_ret ?_
        obtain rfl := Option.some.inj hm
        refine N_ret [.int .i64 s1199, .bool true] (RVs_cons (RV_tmp (by kernel_rfl)) (RVs_cons (RV_tmp (by kernel_rfl)) RVs_nil)) ?_
        exact ⟨rfl, M1221.pick [] (by kernel_rfl)⟩
      refine G_cond_f (b := o1214) hc1224 (by kernel_rfl) ?_
      refine G_skip ?_
      refine N_block ?_
      refine N_then ?_
      refine G_region ?_
      refine W_run 3 [(0, .slice p1138 x1136.length c1139), (1, .string x1141), (2, .int .i64 x1142), (8, .int .i64 (w64 (s1199 + 1)))] w1220 (by kernel_rfl) ?_
      refine W_nil ?_
      obtain rfl := Option.some.inj hm
      exact N_loop fun a ha => ⟨_, rfl, M1221.pick [] (by kernel_rfl), ha.sub (by kernel_rfl)⟩
    refine G_cond_f (b := (decide (s1199 < (x1136.length : Int)))) hc1210 (by kernel_rfl) ?_
    refine G_exit ?_
    refine N_then_exit ?_
    refine N_then_exit ?_
    refine N_block_eq ?_
    obtain rfl := Option.some.inj hm
    obtain rfl := hout1201 _ rfl
    exact N_meet fun a ha => ⟨_, rfl, M1204.pick [] (by kernel_rfl), ha.sub (by kernel_rfl)⟩
  intro a1225 w1226 ⟨o1209, hout_, M1227, hS1228⟩
  refine N_use hS1228 ?_
  subst hout_
  have hm := hmo1208; simp only [Sum.elim_inl] at hm
  refine N_then ?_
  refine G_seq ?_
  refine G_region ?_
  refine W_run 2 [(6, .int .i64 0), (7, .bool false)] w1226 (by kernel_rfl) ?_
  refine W_nil ?_
  refine N_then ?_
  refine G_ret ?_
  obtain rfl := Option.some.inj hm
  refine N_ret [.int .i64 0, .bool false] (RVs_cons (RV_tmp (by kernel_rfl)) (RVs_cons (RV_tmp (by kernel_rfl)) RVs_nil)) ?_
  exact ⟨rfl, M1227.pick [] (by kernel_rfl)⟩
theorem c_i_FirstWith_1 (w : World) (x1298 : Event) (x1299 : ByteArray) (b1300 : Nat) (hb1301 : w.heap[b1300]? = some (.cells ⟨[.string x1299]⟩ 9 (0, 0))) (x1303 : Int) (b1304 : Nat) (hb1305 : w.heap[b1304]? = some (.cells ⟨[.int .i64 x1303]⟩ 3 (0, 0))) {r : Bool} (hm : M.i_FirstWith_1 x1298 x1299 x1303 = some r) :
    Calls Try.prog 60 #[.agg #[.int .i64 x1298.Tick, .int .i64 x1298.Guest, .string x1298.Kind, .int .i64 x1298.Value], .pointer (some ⟨b1300, 0, none⟩), .pointer (some ⟨b1304, 0, none⟩)] w fun e w' => e = .returned (.bool r) ∧ Mem [] w w' [] := by
  unfold M.i_FirstWith_1 at hm
  refine C_enter Try.func60 rfl (by kernel_rfl) ?_
  have M0 := Mem.refl [] w
  refine G_seq ?_
  refine G_region ?_
  refine W_new (fun b => .pointer (some ⟨b, 0, none⟩)) (.cells ⟨[.int .i64 x1298.Tick, .int .i64 x1298.Guest, .string x1298.Kind, .int .i64 x1298.Value]⟩ 26 (0, 0)) M0 rfl (by kernel_rfl) (by kernel_rfl) ?_
  intro b1308 w1309 M1310
  refine W_run 1 [(1, .pointer (some ⟨b1300, 0, none⟩)), (2, .pointer (some ⟨b1304, 0, none⟩)), (3, .pointer (some ⟨b1308, 0, none⟩))] w1309 (by kernel_rfl) ?_
  refine W_nil ?_
  refine N_then ?_
  refine G_seq ?_
  obtain ⟨o1312, ho1313, hm1314⟩ := gx_bind hm
  refine G_meet (fun a w' => Mem [] w w' [] ∧ Sat Try.f60.ntmps [(4, .bool o1312)] a) ?_ ?_
  · have hm := ho1313
    refine G_region ?_
    refine W_run 1 [(1, .pointer (some ⟨b1300, 0, none⟩)), (2, .pointer (some ⟨b1304, 0, none⟩)), (3, .pointer (some ⟨b1308, 0, none⟩)), (5, .pointer (some ⟨b1308, 2, none⟩))] w1309 (by kernel_rfl) ?_
    refine W_val (.string x1298.Kind) w1309 (by kernel_rfl) (E_load (e := 26) (fr := (0, 0)) _ _ false 1 b1308 2 [.int .i64 x1298.Tick, .int .i64 x1298.Guest, .string x1298.Kind, .int .i64 x1298.Value] (.string x1298.Kind) rfl (by kernel_rfl) (by kernel_rfl) (by kernel_rfl) (M1310.blk 0 (b := b1308) (o := .cells ⟨[.int .i64 x1298.Tick, .int .i64 x1298.Guest, .string x1298.Kind, .int .i64 x1298.Value]⟩ 26 (0, 0)) (by kernel_rfl))) ?_
    refine W_val (.string x1299) w1309 (by kernel_rfl) (E_load (e := 9) (fr := (0, 0)) _ _ false 1 b1300 0 [.string x1299] (.string x1299) rfl (by kernel_rfl) (by kernel_rfl) (by kernel_rfl) (M1310.ro hb1301)) ?_
    refine W_run 2 [(2, .pointer (some ⟨b1304, 0, none⟩)), (3, .pointer (some ⟨b1308, 0, none⟩)), (9, .bool (x1298.Kind.toList == x1299.toList))] w1309 (by kernel_rfl) ?_
    rcases gx_bif hm with ⟨hc1315, hm⟩ | ⟨hc1315, hm⟩
    · refine W_known 9 true (by kernel_rfl) hc1315 ?_
      refine W_run 1 [(2, .pointer (some ⟨b1304, 0, none⟩)), (9, .bool true), (10, .pointer (some ⟨b1308, 3, none⟩))] w1309 (by kernel_rfl) ?_
      refine W_val (.int .i64 x1298.Value) w1309 (by kernel_rfl) (E_load (e := 26) (fr := (0, 0)) _ _ false 1 b1308 3 [.int .i64 x1298.Tick, .int .i64 x1298.Guest, .string x1298.Kind, .int .i64 x1298.Value] (.int .i64 x1298.Value) rfl (by kernel_rfl) (by kernel_rfl) (by kernel_rfl) (M1310.blk 0 (b := b1308) (o := .cells ⟨[.int .i64 x1298.Tick, .int .i64 x1298.Guest, .string x1298.Kind, .int .i64 x1298.Value]⟩ 26 (0, 0)) (by kernel_rfl))) ?_
      refine W_val (.int .i64 x1303) w1309 (by kernel_rfl) (E_load (e := 3) (fr := (0, 0)) _ _ false 1 b1304 0 [.int .i64 x1303] (.int .i64 x1303) rfl (by kernel_rfl) (by kernel_rfl) (by kernel_rfl) (M1310.ro hb1305)) ?_
      refine W_run 3 [(4, .bool (decide (x1298.Value ≥ x1303)))] w1309 (by kernel_rfl) ?_
      refine W_nil ?_
      obtain rfl := Option.some.inj hm
      exact N_meet fun a ha => ⟨M1310.pick [] (by kernel_rfl), ha.sub (by kernel_rfl)⟩
    refine W_known 9 false (by kernel_rfl) hc1315 ?_
    refine W_run 6 [(4, .bool false)] w1309 (by kernel_rfl) ?_
    refine W_nil ?_
    obtain rfl := Option.some.inj hm
    exact N_meet fun a ha => ⟨M1310.pick [] (by kernel_rfl), ha.sub (by kernel_rfl)⟩
  intro a1318 w1316 ⟨M1317, hS1319⟩
  refine N_use hS1319 ?_
  have hm := hm1314
  refine N_then ?_
  refine G_ret ?_
  obtain rfl := Option.some.inj hm
  refine N_ret [.bool o1312] (RVs_cons (RV_tmp (by kernel_rfl)) RVs_nil) ?_
  exact ⟨rfl, M1317.pick [] (by kernel_rfl)⟩
theorem c_slices_IndexFunc_59__i_FirstWith_1 (w : World) (x1283 : List Event) (p1285 : Option Addr) (c1286 : Nat) (h1287 : rdS encEvent w x1283 p1285 c1286) (x1288 : ByteArray) (b1289 : Nat) (hb1290 : w.heap[b1289]? = some (.cells ⟨[.string x1288]⟩ 9 (0, 0))) (x1292 : Int) (b1293 : Nat) (hb1294 : w.heap[b1293]? = some (.cells ⟨[.int .i64 x1292]⟩ 3 (0, 0))) {r : Int} (hm : M.slices_IndexFunc_59__i_FirstWith_1 x1283 x1288 x1292 = some r) :
    Calls Try.prog 59 #[.slice p1285 x1283.length c1286, .func (.func 60) #[] #[.pointer (some ⟨b1289, 0, none⟩), .pointer (some ⟨b1293, 0, none⟩)]] w fun e w' => e = .returned (.int .i64 r) ∧ Mem [] w w' [] := by
  unfold M.slices_IndexFunc_59__i_FirstWith_1 at hm
  refine C_enter Try.func59 rfl (by kernel_rfl) ?_
  have M0 := Mem.refl [] w
  refine G_seq ?_
  refine G_region ?_
  refine W_run 1 [(0, .slice p1285 x1283.length c1286), (1, .func (.func 60) #[] #[.pointer (some ⟨b1289, 0, none⟩), .pointer (some ⟨b1293, 0, none⟩)])] w (by kernel_rfl) ?_
  refine W_nil ?_
  refine N_then ?_
  refine G_seq ?_
  refine G_seq ?_
  refine G_region ?_
  refine W_run 3 [(0, .slice p1285 x1283.length c1286), (1, .func (.func 60) #[] #[.pointer (some ⟨b1289, 0, none⟩), .pointer (some ⟨b1293, 0, none⟩)]), (7, .int .i64 (x1283.length : Int)), (8, .int .i64 0)] w (by kernel_rfl) ?_
  refine W_nil ?_
  refine N_then ?_
  obtain ⟨out1339, hw1340, hmo1341⟩ := gx_bind hm
  refine G_meet (fun a w' => ∃ (o1342 : Unit), out1339 = .inl o1342 ∧ Mem [] w w' [] ∧ Sat Try.f59.ntmps [] a) ?_ ?_
  · refine G_block ?_
    refine G_while (σ := Int) (ρ := (Unit) ⊕ (Int)) (fun s1332 a w' => Mem [] w w' [] ∧ Sat Try.f59.ntmps [(0, .slice p1285 x1283.length c1286), (1, .func (.func 60) #[] #[.pointer (some ⟨b1289, 0, none⟩), .pointer (some ⟨b1293, 0, none⟩)]), (7, .int .i64 (x1283.length : Int)), (8, .int .i64 s1332)] a) hw1340 (fun a ha => ⟨M0.pick [] (by kernel_rfl), ha.sub (by kernel_rfl)⟩) ?_
    clear hm
    intro s1332 x1333 hm hout1334 a1335 w1336 ⟨M1337, hS1338⟩
    refine G_use hS1338 ?_
    refine G_seq ?_
    refine G_region ?_
    refine W_run 1 [(0, .slice p1285 x1283.length c1286), (1, .func (.func 60) #[] #[.pointer (some ⟨b1289, 0, none⟩), .pointer (some ⟨b1293, 0, none⟩)]), (7, .int .i64 (x1283.length : Int)), (8, .int .i64 s1332), (9, .bool (decide (s1332 < (x1283.length : Int))))] w1336 (by kernel_rfl) ?_
    refine W_nil ?_
    refine N_then ?_
    refine G_seq ?_
    rcases gx_bif hm with ⟨hc1343, hm⟩ | ⟨hc1343, hm⟩
    · refine G_cond_t (b := (decide (s1332 < (x1283.length : Int)))) hc1343 (by kernel_rfl) ?_
      refine G_skip ?_
      refine N_then ?_
      refine G_seq ?_
      refine G_block ?_
      refine G_seq ?_
      refine G_region ?_
      refine W_run 2 [(0, .slice p1285 x1283.length c1286), (1, .func (.func 60) #[] #[.pointer (some ⟨b1289, 0, none⟩), .pointer (some ⟨b1293, 0, none⟩)]), (5, .int .i64 s1332), (7, .int .i64 (x1283.length : Int)), (8, .int .i64 s1332)] w1336 (by kernel_rfl) ?_
      refine W_nil ?_
      refine N_then ?_
      refine G_seq ?_
      refine G_region ?_
      refine W_run 3 [(0, .slice p1285 x1283.length c1286), (1, .func (.func 60) #[] #[.pointer (some ⟨b1289, 0, none⟩), .pointer (some ⟨b1293, 0, none⟩)]), (5, .int .i64 s1332), (7, .int .i64 (x1283.length : Int)), (8, .int .i64 s1332), (11, .func (.func 60) #[] #[.pointer (some ⟨b1289, 0, none⟩), .pointer (some ⟨b1293, 0, none⟩)]), (12, .slice p1285 x1283.length c1286), (13, .int .i64 s1332)] w1336 (by kernel_rfl) ?_
      obtain ⟨y1344, hy1344, hm⟩ := gx_bind hm
      refine W_val (elemP p1285 (s1332.toNat * 4)) w1336 (by kernel_rfl) (E_index (E := encEvent) _ _ _ x1283.length c1286 .i64 s1332 4 (y := y1344) rfl (by kernel_rfl) (by kernel_rfl) (by kernel_rfl) (h1287.mem0 M1337) rfl hy1344) ?_
      refine W_val (.agg #[.int .i64 y1344.Tick, .int .i64 y1344.Guest, .string y1344.Kind, .int .i64 y1344.Value]) w1336 (by kernel_rfl) (E_loadE (E := encEvent) _ _ true 4 s1332 0 (s1332.toNat * 4) y1344 (.agg #[.int .i64 y1344.Tick, .int .i64 y1344.Guest, .string y1344.Kind, .int .i64 y1344.Value]) rfl (by kernel_rfl) (by kernel_rfl) (by kernel_rfl) (h1287.mem0 M1337) hy1344 rfl) ?_
      obtain ⟨r1345, hr1345, hm⟩ := gx_bind hm
      refine W_call 60 #[.agg #[.int .i64 y1344.Tick, .int .i64 y1344.Guest, .string y1344.Kind, .int .i64 y1344.Value], .pointer (some ⟨b1289, 0, none⟩), .pointer (some ⟨b1293, 0, none⟩)] (by kernel_rfl) (by kernel_rfl) ?_
      refine (c_i_FirstWith_1 w1336 y1344 x1288 b1289 (M1337.ro hb1290) x1292 b1293 (M1337.ro hb1294) hr1345).mono ?_
      rintro e_ w1346 ⟨rfl, K1347⟩
      have M1348 := M1337.call0 K1347
      refine ⟨_, rfl, ?_⟩
      refine W_nil ?_
      refine N_then ?_
      rcases gx_bif hm with ⟨hc1349, hm⟩ | ⟨hc1349, hm⟩
      · refine G_cond_t (b := r1345) hc1349 (by kernel_rfl) ?_
        refine G_seq ?_
        refine G_region ?_
        refine W_run 2 [(4, .int .i64 s1332)] w1346 (by kernel_rfl) ?_
        refine W_nil ?_
        refine N_then ?_
        refine G_ret ?_
        refine N_block_ret ?_
        refine N_then_ret ?_
        refine N_then_ret ?_
        obtain rfl := Option.some.inj hm
        obtain rfl := hout1334 _ rfl
        have hm := hmo1341; simp only [Sum.elim_inr] at hm
        refine N_block_ret ?_
        refine N_meet_ret ?_
        refine N_then_ret ?_
        obtain rfl := Option.some.inj hm
        refine N_ret [.int .i64 s1332] (RVs_cons (RV_tmp (by kernel_rfl)) RVs_nil) ?_
        exact ⟨rfl, M1348.pick [] (by kernel_rfl)⟩
      refine G_cond_f (b := r1345) hc1349 (by kernel_rfl) ?_
      refine G_skip ?_
      refine N_block ?_
      refine N_then ?_
      refine G_region ?_
      refine W_run 2 [(0, .slice p1285 x1283.length c1286), (1, .func (.func 60) #[] #[.pointer (some ⟨b1289, 0, none⟩), .pointer (some ⟨b1293, 0, none⟩)]), (7, .int .i64 (x1283.length : Int)), (8, .int .i64 (w64 (s1332 + 1)))] w1346 (by kernel_rfl) ?_
      refine W_nil ?_
      obtain rfl := Option.some.inj hm
      exact N_loop fun a ha => ⟨_, rfl, M1348.pick [] (by kernel_rfl), ha.sub (by kernel_rfl)⟩
    refine G_cond_f (b := (decide (s1332 < (x1283.length : Int)))) hc1343 (by kernel_rfl) ?_
    refine G_exit ?_
    refine N_then_exit ?_
    refine N_then_exit ?_
    refine N_block_eq ?_
    obtain rfl := Option.some.inj hm
    obtain rfl := hout1334 _ rfl
    exact N_meet fun a ha => ⟨_, rfl, M1337.pick [] (by kernel_rfl), ha.sub (by kernel_rfl)⟩
  intro a1350 w1351 ⟨o1342, hout_, M1352, hS1353⟩
  refine N_use hS1353 ?_
  subst hout_
  have hm := hmo1341; simp only [Sum.elim_inl] at hm
  refine N_then ?_
  refine G_seq ?_
  refine G_region ?_
  refine W_run 1 [(4, .int .i64 (-1))] w1351 (by kernel_rfl) ?_
  refine W_nil ?_
  refine N_then ?_
  refine G_ret ?_
  obtain rfl := Option.some.inj hm
  refine N_ret [.int .i64 (-1)] (RVs_cons (RV_tmp (by kernel_rfl)) RVs_nil) ?_
  exact ⟨rfl, M1352.pick [] (by kernel_rfl)⟩
theorem c_i_FirstWith (w : World) (x1242 : List Event) (p1244 : Option Addr) (c1245 : Nat) (h1246 : rdS encEvent w x1242 p1244 c1245) (x1247 : ByteArray) (x1248 : Int) {r : Int × Bool} (hm : M.i_FirstWith x1242 x1247 x1248 = some r) :
    Calls Try.prog 25 #[.slice p1244 x1242.length c1245, .string x1247, .int .i64 x1248] w fun e w' => e = .returned (.tuple #[.int .i64 r.1, .bool r.2]) ∧ Mem [] w w' [] := by
  unfold M.i_FirstWith at hm
  refine C_enter Try.func25 rfl (by kernel_rfl) ?_
  have M0 := Mem.refl [] w
  refine G_seq ?_
  refine G_region ?_
  refine W_new (fun b => .pointer (some ⟨b, 0, none⟩)) (.cells ⟨[.string x1247]⟩ 9 (0, 0)) M0 rfl (by kernel_rfl) (by kernel_rfl) ?_
  intro b1250 w1251 M1252
  refine W_new (fun b => .pointer (some ⟨b, 0, none⟩)) (.cells ⟨[.int .i64 x1248]⟩ 3 (0, 0)) M1252 rfl (by kernel_rfl) (by kernel_rfl) ?_
  intro b1254 w1255 M1256
  refine W_run 2 [(0, .slice p1244 x1242.length c1245), (4, .pointer (some ⟨b1250, 0, none⟩)), (5, .pointer (some ⟨b1254, 0, none⟩))] w1255 (by kernel_rfl) ?_
  refine W_nil ?_
  refine N_then ?_
  refine G_seq ?_
  refine G_seq ?_
  obtain ⟨o1266, ho1267, hm1268⟩ := gx_bind hm
  refine G_meet (fun a w' => Mem [] w w' [[(b1250, .cells ⟨[.string x1247]⟩ 9 (0, 0))], [(b1254, .cells ⟨[.int .i64 x1248]⟩ 3 (0, 0))]] ∧ Sat Try.f25.ntmps [(0, .slice p1244 x1242.length c1245), (4, .pointer (some ⟨b1250, 0, none⟩)), (5, .pointer (some ⟨b1254, 0, none⟩)), (16, .bool o1266)] a) ?_ ?_
  · have hm := ho1267
    refine G_region ?_
    refine W_run 1 [(0, .slice p1244 x1242.length c1245), (4, .pointer (some ⟨b1250, 0, none⟩)), (5, .pointer (some ⟨b1254, 0, none⟩)), (9, .slice p1244 x1242.length c1245)] w1255 (by kernel_rfl) ?_
    obtain ⟨r1269, hr1269, hm⟩ := gx_bind hm
    refine W_call 20 #[.slice p1244 x1242.length c1245] (by kernel_rfl) (by kernel_rfl) ?_
    refine (c_i_IsRecord w1255 x1242 p1244 c1245 (h1246.mem0 M1256) hr1269).mono ?_
    rintro e_ w1270 ⟨rfl, K1271⟩
    have M1272 := M1256.call0 K1271
    refine ⟨_, rfl, ?_⟩
    refine W_run 2 [(0, .slice p1244 x1242.length c1245), (4, .pointer (some ⟨b1250, 0, none⟩)), (5, .pointer (some ⟨b1254, 0, none⟩)), (12, .bool (!r1269))] w1270 (by kernel_rfl) ?_
    rcases gx_bif hm with ⟨hc1273, hm⟩ | ⟨hc1273, hm⟩
    · refine W_known 12 true (by kernel_rfl) hc1273 ?_
      refine W_run 4 [(0, .slice p1244 x1242.length c1245), (4, .pointer (some ⟨b1250, 0, none⟩)), (5, .pointer (some ⟨b1254, 0, none⟩)), (16, .bool true)] w1270 (by kernel_rfl) ?_
      refine W_nil ?_
      obtain rfl := Option.some.inj hm
      exact N_meet fun a ha => ⟨M1272.pick [0, 1] (by kernel_rfl), ha.sub (by kernel_rfl)⟩
    refine W_known 12 false (by kernel_rfl) hc1273 ?_
    refine W_val (.int .i64 x1248) w1270 (by kernel_rfl) (E_load (e := 3) (fr := (0, 0)) _ _ false 1 b1254 0 [.int .i64 x1248] (.int .i64 x1248) rfl (by kernel_rfl) (by kernel_rfl) (by kernel_rfl) (M1272.blk 1 (b := b1254) (o := .cells ⟨[.int .i64 x1248]⟩ 3 (0, 0)) (by kernel_rfl))) ?_
    obtain ⟨r1274, hr1274, hm⟩ := gx_bind hm
    refine W_call 55 #[.int .i64 x1248] (by kernel_rfl) (by kernel_rfl) ?_
    refine (c_i_isWord16 w1270 x1248 hr1274).mono ?_
    rintro e_ w1275 ⟨rfl, K1276⟩
    have M1277 := M1272.call0 K1276
    refine ⟨_, rfl, ?_⟩
    refine W_run 2 [(0, .slice p1244 x1242.length c1245), (4, .pointer (some ⟨b1250, 0, none⟩)), (5, .pointer (some ⟨b1254, 0, none⟩)), (16, .bool (!r1274))] w1275 (by kernel_rfl) ?_
    refine W_nil ?_
    obtain rfl := Option.some.inj hm
    exact N_meet fun a ha => ⟨M1277.pick [0, 1] (by kernel_rfl), ha.sub (by kernel_rfl)⟩
  intro a1280 w1278 ⟨M1279, hS1281⟩
  refine N_use hS1281 ?_
  have hm := hm1268
  refine N_then ?_
  rcases gx_bif hm with ⟨hc1282, hm⟩ | ⟨hc1282, hm⟩
  · refine G_cond_t (b := o1266) hc1282 (by kernel_rfl) ?_
    refine G_seq ?_
    refine G_region ?_
    refine W_run 2 [(6, .int .i64 0), (7, .bool false)] w1278 (by kernel_rfl) ?_
    refine W_nil ?_
    refine N_then ?_
    refine G_ret ?_
    refine N_then_ret ?_
    obtain rfl := Option.some.inj hm
    refine N_ret [.int .i64 0, .bool false] (RVs_cons (RV_tmp (by kernel_rfl)) (RVs_cons (RV_tmp (by kernel_rfl)) RVs_nil)) ?_
    exact ⟨rfl, M1279.pick [] (by kernel_rfl)⟩
  refine G_cond_f (b := o1266) hc1282 (by kernel_rfl) ?_
  refine G_skip ?_
  refine N_then ?_
  refine G_seq ?_
  refine G_region ?_
  refine W_run 2 [(17, .slice p1244 x1242.length c1245), (18, .func (.func 60) #[] #[.pointer (some ⟨b1250, 0, none⟩), .pointer (some ⟨b1254, 0, none⟩)])] w1278 (by kernel_rfl) ?_
  obtain ⟨r1354, hr1354, hm⟩ := gx_bind hm
  refine W_call 59 #[.slice p1244 x1242.length c1245, .func (.func 60) #[] #[.pointer (some ⟨b1250, 0, none⟩), .pointer (some ⟨b1254, 0, none⟩)]] (by kernel_rfl) (by kernel_rfl) ?_
  refine (c_slices_IndexFunc_59__i_FirstWith_1 w1278 x1242 p1244 c1245 (h1246.mem0 M1279) x1247 b1250 (M1279.blk 0 (b := b1250) (o := .cells ⟨[.string x1247]⟩ 9 (0, 0)) (by kernel_rfl)) x1248 b1254 (M1279.blk 1 (b := b1254) (o := .cells ⟨[.int .i64 x1248]⟩ 3 (0, 0)) (by kernel_rfl)) hr1354).mono ?_
  rintro e_ w1355 ⟨rfl, K1356⟩
  have M1357 := M1279.call0 K1356
  refine ⟨_, rfl, ?_⟩
  refine W_run 1 [(8, .int .i64 r1354)] w1355 (by kernel_rfl) ?_
  refine W_nil ?_
  refine N_then ?_
  refine G_seq ?_
  refine G_seq ?_
  refine G_region ?_
  refine W_run 2 [(8, .int .i64 r1354), (21, .bool (decide (r1354 < 0)))] w1355 (by kernel_rfl) ?_
  refine W_nil ?_
  refine N_then ?_
  rcases gx_bif hm with ⟨hc1358, hm⟩ | ⟨hc1358, hm⟩
  · refine G_cond_t (b := (decide (r1354 < 0))) hc1358 (by kernel_rfl) ?_
    refine G_seq ?_
    refine G_region ?_
    refine W_run 2 [(6, .int .i64 0), (7, .bool false)] w1355 (by kernel_rfl) ?_
    refine W_nil ?_
    refine N_then ?_
    refine G_ret ?_
    refine N_then_ret ?_
    obtain rfl := Option.some.inj hm
    refine N_ret [.int .i64 0, .bool false] (RVs_cons (RV_tmp (by kernel_rfl)) (RVs_cons (RV_tmp (by kernel_rfl)) RVs_nil)) ?_
    exact ⟨rfl, M1357.pick [] (by kernel_rfl)⟩
  refine G_cond_f (b := (decide (r1354 < 0))) hc1358 (by kernel_rfl) ?_
  refine G_skip ?_
  refine N_then ?_
  refine G_seq ?_
  refine G_region ?_
  refine W_run 3 [(6, .int .i64 r1354), (7, .bool true)] w1355 (by kernel_rfl) ?_
  refine W_nil ?_
  refine N_then ?_
  refine G_ret ?_
  obtain rfl := Option.some.inj hm
  refine N_ret [.int .i64 r1354, .bool true] (RVs_cons (RV_tmp (by kernel_rfl)) (RVs_cons (RV_tmp (by kernel_rfl)) RVs_nil)) ?_
  exact ⟨rfl, M1357.pick [] (by kernel_rfl)⟩
theorem c_l_FnExactFirstWith (w : World) (x1114 : List Event) (p1116 : Option Addr) (c1117 : Nat) (h1118 : rdS encEvent w x1114 p1116 c1117) (x1119 : ByteArray) (x1120 : Int) {r : Bool} (hm : M.l_FnExactFirstWith x1114 x1119 x1120 = some r) :
    Calls Try.prog 6 #[.slice p1116 x1114.length c1117, .string x1119, .int .i64 x1120] w fun e w' => e = .returned (.bool r) ∧ Mem [] w w' [] := by
  unfold M.l_FnExactFirstWith at hm
  refine C_enter Try.func6 rfl (by kernel_rfl) ?_
  have M0 := Mem.refl [] w
  refine G_seq ?_
  refine G_region ?_
  refine W_run 1 [(0, .slice p1116 x1114.length c1117), (1, .string x1119), (2, .int .i64 x1120)] w (by kernel_rfl) ?_
  refine W_nil ?_
  refine N_then ?_
  refine G_seq ?_
  refine G_seq ?_
  refine G_region ?_
  refine W_run 3 [(0, .slice p1116 x1114.length c1117), (1, .string x1119), (2, .int .i64 x1120), (15, .bool (decide ((x1119.size : Int) > 1048576)))] w (by kernel_rfl) ?_
  refine W_nil ?_
  refine N_then ?_
  rcases gx_bif hm with ⟨hc1121, hm⟩ | ⟨hc1121, hm⟩
  · refine G_cond_t (b := (decide ((x1119.size : Int) > 1048576))) hc1121 (by kernel_rfl) ?_
    refine G_seq ?_
    refine G_region ?_
    refine W_run 1 [(6, .bool true)] w (by kernel_rfl) ?_
    refine W_nil ?_
    refine N_then ?_
    refine G_ret ?_
    refine N_then_ret ?_
    obtain rfl := Option.some.inj hm
    refine N_ret [.bool true] (RVs_cons (RV_tmp (by kernel_rfl)) RVs_nil) ?_
    exact ⟨rfl, M0.pick [] (by kernel_rfl)⟩
  refine G_cond_f (b := (decide ((x1119.size : Int) > 1048576))) hc1121 (by kernel_rfl) ?_
  refine G_skip ?_
  refine N_then ?_
  refine G_seq ?_
  refine G_region ?_
  refine W_run 1 [(0, .slice p1116 x1114.length c1117), (1, .string x1119), (2, .int .i64 x1120), (7, .int .i64 1048576)] w (by kernel_rfl) ?_
  refine W_nil ?_
  refine N_then ?_
  refine G_seq ?_
  refine G_region ?_
  refine W_run 2 [(0, .slice p1116 x1114.length c1117), (1, .string x1119), (2, .int .i64 x1120), (7, .int .i64 1048576), (16, .slice p1116 x1114.length c1117), (17, .int .i64 1048576)] w (by kernel_rfl) ?_
  obtain ⟨r1122, hr1122, hm⟩ := gx_bind hm
  refine W_call 17 #[.slice p1116 x1114.length c1117, .int .i64 1048576] (by kernel_rfl) (by kernel_rfl) ?_
  refine (c_l_szEventS w x1114 p1116 c1117 (h1118.mem0 M0) 1048576 hr1122).mono ?_
  rintro e_ w1123 ⟨rfl, K1124⟩
  have M1125 := M0.call0 K1124
  refine ⟨_, rfl, ?_⟩
  refine W_run 1 [(0, .slice p1116 x1114.length c1117), (1, .string x1119), (2, .int .i64 x1120), (7, .int .i64 r1122)] w1123 (by kernel_rfl) ?_
  refine W_nil ?_
  refine N_then ?_
  refine G_seq ?_
  refine G_seq ?_
  refine G_region ?_
  refine W_run 2 [(0, .slice p1116 x1114.length c1117), (1, .string x1119), (2, .int .i64 x1120), (20, .bool (decide (r1122 < 0)))] w1123 (by kernel_rfl) ?_
  refine W_nil ?_
  refine N_then ?_
  rcases gx_bif hm with ⟨hc1126, hm⟩ | ⟨hc1126, hm⟩
  · refine G_cond_t (b := (decide (r1122 < 0))) hc1126 (by kernel_rfl) ?_
    refine G_seq ?_
    refine G_region ?_
    refine W_run 1 [(6, .bool true)] w1123 (by kernel_rfl) ?_
    refine W_nil ?_
    refine N_then ?_
    refine G_ret ?_
    refine N_then_ret ?_
    obtain rfl := Option.some.inj hm
    refine N_ret [.bool true] (RVs_cons (RV_tmp (by kernel_rfl)) RVs_nil) ?_
    exact ⟨rfl, M1125.pick [] (by kernel_rfl)⟩
  refine G_cond_f (b := (decide (r1122 < 0))) hc1126 (by kernel_rfl) ?_
  refine G_skip ?_
  refine N_then ?_
  refine G_seq ?_
  refine G_region ?_
  refine W_run 1 [(0, .slice p1116 x1114.length c1117), (1, .string x1119), (2, .int .i64 x1120), (22, .slice p1116 x1114.length c1117)] w1123 (by kernel_rfl) ?_
  obtain ⟨r1127, hr1127, hm⟩ := gx_bind hm
  refine W_call 19 #[.slice p1116 x1114.length c1117] (by kernel_rfl) (by kernel_rfl) ?_
  refine (c_l_toEventS w1123 x1114 p1116 c1117 (h1118.mem0 M1125) hr1127).mono ?_
  rintro e_ w1133 ⟨p1129, c1130, sg1131, rfl, ho1132, K1134⟩
  have M1135 := M1125.call K1134
  refine ⟨_, rfl, ?_⟩
  refine W_run 2 [(0, .slice p1116 x1114.length c1117), (1, .string x1119), (2, .int .i64 x1120), (23, .slice p1129 r1127.length c1130), (24, .string x1119), (25, .int .i64 x1120)] w1133 (by kernel_rfl) ?_
  obtain ⟨r1229, hr1229, hm⟩ := gx_bind hm
  refine W_call 24 #[.slice p1129 r1127.length c1130, .string x1119, .int .i64 x1120] (by kernel_rfl) (by kernel_rfl) ?_
  refine (c_s_FirstWith w1133 r1127 p1129 c1130 (ho1132.rd M1135 0 (by kernel_rfl)) x1119 x1120 hr1229).mono ?_
  rintro e_ w1230 ⟨rfl, K1231⟩
  have M1232 := M1135.call0 K1231
  refine ⟨_, rfl, ?_⟩
  refine W_run 5 [(0, .slice p1116 x1114.length c1117), (1, .string x1119), (2, .int .i64 x1120), (8, .int .i64 r1229.1), (9, .bool r1229.2)] w1230 (by kernel_rfl) ?_
  refine W_nil ?_
  refine N_then ?_
  refine G_seq ?_
  refine G_region ?_
  refine W_run 1 [(0, .slice p1116 x1114.length c1117), (1, .string x1119), (2, .int .i64 x1120), (8, .int .i64 r1229.1), (9, .bool r1229.2), (29, .slice p1116 x1114.length c1117)] w1230 (by kernel_rfl) ?_
  obtain ⟨r1233, hr1233, hm⟩ := gx_bind hm
  refine W_call 19 #[.slice p1116 x1114.length c1117] (by kernel_rfl) (by kernel_rfl) ?_
  refine (c_l_toEventS w1230 x1114 p1116 c1117 (h1118.mem0 M1232) hr1233).mono ?_
  rintro e_ w1239 ⟨p1235, c1236, sg1237, rfl, ho1238, K1240⟩
  have M1241 := M1232.call K1240
  refine ⟨_, rfl, ?_⟩
  refine W_run 1 [(0, .slice p1116 x1114.length c1117), (1, .string x1119), (2, .int .i64 x1120), (8, .int .i64 r1229.1), (9, .bool r1229.2), (10, .slice p1235 r1233.length c1236)] w1239 (by kernel_rfl) ?_
  refine W_nil ?_
  refine N_then ?_
  refine G_seq ?_
  refine G_region ?_
  refine W_run 3 [(0, .slice p1116 x1114.length c1117), (8, .int .i64 r1229.1), (9, .bool r1229.2), (10, .slice p1235 r1233.length c1236), (32, .slice p1235 r1233.length c1236), (33, .string x1119), (34, .int .i64 x1120)] w1239 (by kernel_rfl) ?_
  obtain ⟨r1359, hr1359, hm⟩ := gx_bind hm
  refine W_call 25 #[.slice p1235 r1233.length c1236, .string x1119, .int .i64 x1120] (by kernel_rfl) (by kernel_rfl) ?_
  refine (c_i_FirstWith w1239 r1233 p1235 c1236 (ho1238.rd M1241 1 (by kernel_rfl)) x1119 x1120 hr1359).mono ?_
  rintro e_ w1360 ⟨rfl, K1361⟩
  have M1362 := M1241.call0 K1361
  refine ⟨_, rfl, ?_⟩
  refine W_run 5 [(0, .slice p1116 x1114.length c1117), (8, .int .i64 r1229.1), (9, .bool r1229.2), (10, .slice p1235 r1233.length c1236), (11, .int .i64 r1359.1), (12, .bool r1359.2)] w1360 (by kernel_rfl) ?_
  refine W_nil ?_
  refine N_then ?_
  refine G_seq ?_
  refine G_seq ?_
  obtain ⟨o1364, ho1365, hm1366⟩ := gx_bind hm
  refine G_meet (fun a w' => Mem [] w w' [sg1237] ∧ Sat Try.f6.ntmps [(0, .slice p1116 x1114.length c1117), (10, .slice p1235 r1233.length c1236), (45, .bool o1364)] a) ?_ ?_
  · have hm := ho1365
    refine G_region ?_
    refine W_run 4 [(0, .slice p1116 x1114.length c1117), (9, .bool r1229.2), (10, .slice p1235 r1233.length c1236), (12, .bool r1359.2), (41, .bool (r1359.1 != r1229.1))] w1360 (by kernel_rfl) ?_
    rcases gx_bif hm with ⟨hc1367, hm⟩ | ⟨hc1367, hm⟩
    · refine W_known 41 true (by kernel_rfl) hc1367 ?_
      refine W_run 4 [(0, .slice p1116 x1114.length c1117), (10, .slice p1235 r1233.length c1236), (45, .bool true)] w1360 (by kernel_rfl) ?_
      refine W_nil ?_
      obtain rfl := Option.some.inj hm
      exact N_meet fun a ha => ⟨M1362.pick [1] (by kernel_rfl), ha.sub (by kernel_rfl)⟩
    refine W_known 41 false (by kernel_rfl) hc1367 ?_
    refine W_run 4 [(0, .slice p1116 x1114.length c1117), (10, .slice p1235 r1233.length c1236), (45, .bool (!(r1359.2 == r1229.2)))] w1360 (by kernel_rfl) ?_
    refine W_nil ?_
    obtain rfl := Option.some.inj hm
    exact N_meet fun a ha => ⟨M1362.pick [1] (by kernel_rfl), ha.sub (by kernel_rfl)⟩
  intro a1370 w1368 ⟨M1369, hS1371⟩
  refine N_use hS1371 ?_
  have hm := hm1366
  refine N_then ?_
  rcases gx_bif hm with ⟨hc1372, hm⟩ | ⟨hc1372, hm⟩
  · refine G_cond_t (b := o1364) hc1372 (by kernel_rfl) ?_
    refine G_seq ?_
    refine G_region ?_
    refine W_run 1 [(6, .bool false)] w1368 (by kernel_rfl) ?_
    refine W_nil ?_
    refine N_then ?_
    refine G_ret ?_
    refine N_then_ret ?_
    obtain rfl := Option.some.inj hm
    refine N_ret [.bool false] (RVs_cons (RV_tmp (by kernel_rfl)) RVs_nil) ?_
    exact ⟨rfl, M1369.pick [] (by kernel_rfl)⟩
  refine G_cond_f (b := o1364) hc1372 (by kernel_rfl) ?_
  refine G_skip ?_
  refine N_then ?_
  refine G_seq ?_
  refine G_seq ?_
  refine G_region ?_
  refine W_run 2 [(46, .slice p1235 r1233.length c1236), (47, .slice p1116 x1114.length c1117)] w1368 (by kernel_rfl) ?_
  obtain ⟨r1373, hr1373, hm⟩ := gx_bind hm
  refine W_call 19 #[.slice p1116 x1114.length c1117] (by kernel_rfl) (by kernel_rfl) ?_
  refine (c_l_toEventS w1368 x1114 p1116 c1117 (h1118.mem0 M1369) hr1373).mono ?_
  rintro e_ w1379 ⟨p1375, c1376, sg1377, rfl, ho1378, K1380⟩
  have M1381 := M1369.call K1380
  refine ⟨_, rfl, ?_⟩
  obtain ⟨r1382, hr1382, hm⟩ := gx_bind hm
  refine W_call 21 #[.slice p1235 r1233.length c1236, .slice p1375 r1373.length c1376] (by kernel_rfl) (by kernel_rfl) ?_
  refine (c_l_eqEventS w1379 r1233 p1235 c1236 (ho1238.rd M1381 0 (by kernel_rfl)) r1373 p1375 c1376 (ho1378.rd M1381 1 (by kernel_rfl)) hr1382).mono ?_
  rintro e_ w1383 ⟨rfl, K1384⟩
  have M1385 := M1381.call0 K1384
  refine ⟨_, rfl, ?_⟩
  refine W_run 1 [(50, .bool (!r1382))] w1383 (by kernel_rfl) ?_
  refine W_nil ?_
  refine N_then ?_
  rcases gx_bif hm with ⟨hc1386, hm⟩ | ⟨hc1386, hm⟩
  · refine G_cond_t (b := (!r1382)) hc1386 (by kernel_rfl) ?_
    refine G_seq ?_
    refine G_region ?_
    refine W_run 1 [(6, .bool false)] w1383 (by kernel_rfl) ?_
    refine W_nil ?_
    refine N_then ?_
    refine G_ret ?_
    refine N_then_ret ?_
    obtain rfl := Option.some.inj hm
    refine N_ret [.bool false] (RVs_cons (RV_tmp (by kernel_rfl)) RVs_nil) ?_
    exact ⟨rfl, M1385.pick [] (by kernel_rfl)⟩
  refine G_cond_f (b := (!r1382)) hc1386 (by kernel_rfl) ?_
  refine G_skip ?_
  refine N_then ?_
  refine G_seq ?_
  refine G_region ?_
  refine W_run 1 [(6, .bool true)] w1383 (by kernel_rfl) ?_
  refine W_nil ?_
  refine N_then ?_
  refine G_ret ?_
  obtain rfl := Option.some.inj hm
  refine N_ret [.bool true] (RVs_cons (RV_tmp (by kernel_rfl)) RVs_nil) ?_
  exact ⟨rfl, M1385.pick [] (by kernel_rfl)⟩
theorem c_s_EventsOf (w : World) (x1407 : List Event) (p1409 : Option Addr) (c1410 : Nat) (h1411 : rdS encEvent w x1407 p1409 c1410) (x1412 : Int) {r : (List Event) × Bool} (hm : M.s_EventsOf x1407 x1412 = some r) :
    Calls Try.prog 26 #[.slice p1409 x1407.length c1410, .int .i64 x1412] w fun e w' => ∃ (p1414 : Option Addr) (c1415 : Nat) (sg1416 : Seg), e = .returned (.tuple #[.slice p1414 r.1.length c1415, .bool r.2]) ∧ ownS encEvent r.1 p1414 c1415 sg1416 ∧ Mem [] w w' [sg1416] := by
  unfold M.s_EventsOf at hm
  refine C_enter Try.func26 rfl (by kernel_rfl) ?_
  have M0 := Mem.refl [] w
  refine G_seq ?_
  refine G_region ?_
  refine W_run 2 [(0, .slice p1409 x1407.length c1410), (1, .int .i64 x1412)] w (by kernel_rfl) ?_
  refine W_nil ?_
  refine N_then ?_
  refine G_seq ?_
  refine G_region ?_
  refine W_lit (E := encEvent) ([] : List Event) 0 [] 26 M0 (by kernel_rfl) (by kernel_rfl) (by kernel_rfl) (by kernel_rfl) (by kernel_rfl) ?_
  intro p1418 c1419 sg1420 w1421 ho1422 M1423
  refine W_run 1 [(0, .slice p1409 x1407.length c1410), (1, .int .i64 x1412), (6, .slice p1418 ([] : List Event).length c1419)] w1421 (by kernel_rfl) ?_
  refine W_nil ?_
  refine N_then ?_
  refine G_seq ?_
  refine G_seq ?_
  obtain ⟨o1434, ho1435, hm1436⟩ := gx_bind hm
  refine G_meet (fun a w' => Mem [] w w' [sg1420] ∧ Sat Try.f26.ntmps [(0, .slice p1409 x1407.length c1410), (1, .int .i64 x1412), (6, .slice p1418 ([] : List Event).length c1419), (16, .bool o1434)] a) ?_ ?_
  · have hm := ho1435
    refine G_region ?_
    refine W_run 1 [(0, .slice p1409 x1407.length c1410), (1, .int .i64 x1412), (6, .slice p1418 ([] : List Event).length c1419), (9, .slice p1409 x1407.length c1410)] w1421 (by kernel_rfl) ?_
    obtain ⟨r1437, hr1437, hm⟩ := gx_bind hm
    refine W_call 56 #[.slice p1409 x1407.length c1410] (by kernel_rfl) (by kernel_rfl) ?_
    refine (c_s_l22Good w1421 x1407 p1409 c1410 (h1411.mem0 M1423) hr1437).mono ?_
    rintro e_ w1438 ⟨rfl, K1439⟩
    have M1440 := M1423.call0 K1439
    refine ⟨_, rfl, ?_⟩
    refine W_run 2 [(0, .slice p1409 x1407.length c1410), (1, .int .i64 x1412), (6, .slice p1418 ([] : List Event).length c1419), (12, .bool (!r1437))] w1438 (by kernel_rfl) ?_
    rcases gx_bif hm with ⟨hc1441, hm⟩ | ⟨hc1441, hm⟩
    · refine W_known 12 true (by kernel_rfl) hc1441 ?_
      refine W_run 4 [(0, .slice p1409 x1407.length c1410), (1, .int .i64 x1412), (6, .slice p1418 ([] : List Event).length c1419), (16, .bool true)] w1438 (by kernel_rfl) ?_
      refine W_nil ?_
      obtain rfl := Option.some.inj hm
      exact N_meet fun a ha => ⟨M1440.pick [0] (by kernel_rfl), ha.sub (by kernel_rfl)⟩
    refine W_known 12 false (by kernel_rfl) hc1441 ?_
    refine W_run 1 [(0, .slice p1409 x1407.length c1410), (1, .int .i64 x1412), (6, .slice p1418 ([] : List Event).length c1419), (12, .bool false), (13, .int .i64 x1412)] w1438 (by kernel_rfl) ?_
    obtain ⟨r1442, hr1442, hm⟩ := gx_bind hm
    refine W_call 61 #[.int .i64 x1412] (by kernel_rfl) (by kernel_rfl) ?_
    refine (c_s_l22Guest w1438 x1412 hr1442).mono ?_
    rintro e_ w1443 ⟨rfl, K1444⟩
    have M1445 := M1440.call0 K1444
    refine ⟨_, rfl, ?_⟩
    refine W_run 2 [(0, .slice p1409 x1407.length c1410), (1, .int .i64 x1412), (6, .slice p1418 ([] : List Event).length c1419), (16, .bool (!r1442))] w1443 (by kernel_rfl) ?_
    refine W_nil ?_
    obtain rfl := Option.some.inj hm
    exact N_meet fun a ha => ⟨M1445.pick [0] (by kernel_rfl), ha.sub (by kernel_rfl)⟩
  intro a1448 w1446 ⟨M1447, hS1449⟩
  refine N_use hS1449 ?_
  have hm := hm1436
  refine N_then ?_
  rcases gx_bif hm with ⟨hc1450, hm⟩ | ⟨hc1450, hm⟩
  · refine G_cond_t (b := o1434) hc1450 (by kernel_rfl) ?_
    refine G_seq ?_
    refine G_region ?_
    refine W_run 3 [(4, .slice p1418 ([] : List Event).length c1419), (5, .bool false)] w1446 (by kernel_rfl) ?_
    refine W_nil ?_
    refine N_then ?_
    refine G_ret ?_
    refine N_then_ret ?_
    obtain rfl := Option.some.inj hm
    refine N_ret [.slice p1418 ([] : List Event).length c1419, .bool false] (RVs_cons (RV_tmp (by kernel_rfl)) (RVs_cons (RV_tmp (by kernel_rfl)) RVs_nil)) ?_
    exact ⟨p1418, c1419, sg1420, rfl, ho1422, M1447.pick [0] (by kernel_rfl)⟩
  refine G_cond_f (b := o1434) hc1450 (by kernel_rfl) ?_
  refine G_skip ?_
  refine N_then ?_
  refine G_seq ?_
  refine G_seq ?_
  refine G_region ?_
  refine W_run 1 [(0, .slice p1409 x1407.length c1410), (1, .int .i64 x1412), (6, .slice p1418 ([] : List Event).length c1419), (7, .int .i64 0)] w1446 (by kernel_rfl) ?_
  refine W_nil ?_
  refine N_then ?_
  obtain ⟨out1559, hw1560, hmo1561⟩ := gx_bind hm
  refine G_meet (fun a w' => ∃ (p1568 : Option Addr), ∃ (c1569 : Nat), ∃ (sg1570 : Seg), ownS encEvent out1559 p1568 c1569 sg1570 ∧ Mem [] w w' [sg1570] ∧ Sat Try.f26.ntmps [(6, .slice p1568 out1559.length c1569)] a) ?_ ?_
  · refine G_block ?_
    refine G_while (σ := List Event × Int) (ρ := List Event) (fun s1552 a w' => ∃ (p1562 : Option Addr), ∃ (c1563 : Nat), ∃ (sg1564 : Seg), ownS encEvent s1552.1 p1562 c1563 sg1564 ∧ Mem [] w w' [sg1564] ∧ Sat Try.f26.ntmps [(0, .slice p1409 x1407.length c1410), (1, .int .i64 x1412), (6, .slice p1562 s1552.1.length c1563), (7, .int .i64 s1552.2)] a) hw1560 (fun a ha => ⟨p1418, c1419, sg1420, ho1422, M1447.pick [0] (by kernel_rfl), ha.sub (by kernel_rfl)⟩) ?_
    clear hm
    intro s1552 x1553 hm hout1554 a1555 w1556 ⟨p1562, c1563, sg1564, ho1565, M1557, hS1558⟩
    refine G_use hS1558 ?_
    refine G_seq ?_
    refine G_seq ?_
    refine G_region ?_
    refine W_run 4 [(0, .slice p1409 x1407.length c1410), (1, .int .i64 x1412), (6, .slice p1562 s1552.1.length c1563), (7, .int .i64 s1552.2), (21, .bool (decide (s1552.2 < (x1407.length : Int))))] w1556 (by kernel_rfl) ?_
    refine W_nil ?_
    refine N_then ?_
    rcases gx_bif hm with ⟨hc1573, hm⟩ | ⟨hc1573, hm⟩
    · refine G_cond_t (b := (decide (s1552.2 < (x1407.length : Int)))) hc1573 (by kernel_rfl) ?_
      refine G_skip ?_
      refine N_then ?_
      refine G_seq ?_
      refine G_block ?_
      refine G_seq ?_
      refine G_region ?_
      refine W_run 2 [(0, .slice p1409 x1407.length c1410), (1, .int .i64 x1412), (6, .slice p1562 s1552.1.length c1563), (7, .int .i64 s1552.2), (24, .slice p1409 x1407.length c1410), (25, .int .i64 s1552.2)] w1556 (by kernel_rfl) ?_
      obtain ⟨y1574, hy1574, hm⟩ := gx_bind hm
      refine W_val (elemP p1409 (s1552.2.toNat * 4)) w1556 (by kernel_rfl) (E_index (E := encEvent) _ _ _ x1407.length c1410 .i64 s1552.2 4 (y := y1574) rfl (by kernel_rfl) (by kernel_rfl) (by kernel_rfl) (h1411.mem0 M1557) rfl hy1574) ?_
      refine W_val (elemP p1409 (s1552.2.toNat * 4 + 1)) w1556 (by kernel_rfl) (E_fieldE (E := encEvent) _ _ 1 (s1552.2.toNat * 4) 1 rfl (by kernel_rfl) (by kernel_rfl) (h1411.mem0 M1557) hy1574) ?_
      refine W_val (.int .i64 y1574.Guest) w1556 (by kernel_rfl) (E_loadE (E := encEvent) _ _ false 1 s1552.2 1 (s1552.2.toNat * 4 + 1) y1574 (.int .i64 y1574.Guest) rfl (by kernel_rfl) (by kernel_rfl) (by kernel_rfl) (h1411.mem0 M1557) hy1574 rfl) ?_
      refine W_run 2 [(0, .slice p1409 x1407.length c1410), (1, .int .i64 x1412), (6, .slice p1562 s1552.1.length c1563), (7, .int .i64 s1552.2), (30, .bool (y1574.Guest == x1412))] w1556 (by kernel_rfl) ?_
      refine W_nil ?_
      refine N_then ?_
      obtain ⟨o1592, ho1593, hm1594⟩ := gx_bind hm
      refine G_meet (fun a w' => ∃ (p1595 : Option Addr), ∃ (c1596 : Nat), ∃ (sg1597 : Seg), ownS encEvent o1592 p1595 c1596 sg1597 ∧ Mem [] w w' [sg1597] ∧ Sat Try.f26.ntmps [(0, .slice p1409 x1407.length c1410), (1, .int .i64 x1412), (6, .slice p1595 o1592.length c1596), (7, .int .i64 s1552.2)] a) ?_ ?_
      · have hm := ho1593
        rcases gx_bif hm with ⟨hc1600, hm⟩ | ⟨hc1600, hm⟩
        · refine G_cond_t (b := (y1574.Guest == x1412)) hc1600 (by kernel_rfl) ?_
          refine G_region ?_
          refine W_run 3 [(0, .slice p1409 x1407.length c1410), (1, .int .i64 x1412), (6, .slice p1562 s1552.1.length c1563), (7, .int .i64 s1552.2), (31, .slice p1562 s1552.1.length c1563), (32, .slice p1409 x1407.length c1410), (33, .int .i64 s1552.2)] w1556 (by kernel_rfl) ?_
          obtain ⟨y1601, hy1601, hm⟩ := gx_bind hm
          refine W_val (elemP p1409 (s1552.2.toNat * 4)) w1556 (by kernel_rfl) (E_index (E := encEvent) _ _ _ x1407.length c1410 .i64 s1552.2 4 (y := y1601) rfl (by kernel_rfl) (by kernel_rfl) (by kernel_rfl) (h1411.mem0 M1557) rfl hy1601) ?_
          refine W_val (.agg #[.int .i64 y1601.Tick, .int .i64 y1601.Guest, .string y1601.Kind, .int .i64 y1601.Value]) w1556 (by kernel_rfl) (E_loadE (E := encEvent) _ _ true 4 s1552.2 0 (s1552.2.toNat * 4) y1601 (.agg #[.int .i64 y1601.Tick, .int .i64 y1601.Guest, .string y1601.Kind, .int .i64 y1601.Value]) rfl (by kernel_rfl) (by kernel_rfl) (by kernel_rfl) (h1411.mem0 M1557) hy1601 rfl) ?_
          refine W_lit (E := encEvent) [y1601] 1 [.int .i64 y1601.Tick, .int .i64 y1601.Guest, .string y1601.Kind, .int .i64 y1601.Value] 26 M1557 (by kernel_rfl) (by kernel_rfl) (by kernel_rfl) (by kernel_rfl) (by kernel_rfl) ?_
          intro p1602 c1603 sg1604 w1605 ho1606 M1607
          obtain ⟨ap1609, hap1609, hm⟩ := gx_bind hm
          refine W_append (E := encEvent) _ _ _ 40 [.int .i64 0, .int .i64 0, .string ByteArray.empty, .int .i64 0] 0 c1603 M1607 ho1565 (by kernel_rfl) (by kernel_rfl) (by kernel_rfl) rfl (by kernel_rfl) (by kernel_rfl) (by kernel_rfl) (by kernel_rfl) (by kernel_rfl) (by kernel_rfl) (ho1606.rd M1607 1 (by kernel_rfl)) hap1609 ?_
          intro p1610 c1611 sg1612 w1613 ho1614 M1615
          refine W_run 1 [(0, .slice p1409 x1407.length c1410), (1, .int .i64 x1412), (6, .slice p1610 ap1609.length c1611), (7, .int .i64 s1552.2)] w1613 (by kernel_rfl) ?_
          refine W_nil ?_
          obtain rfl := Option.some.inj hm
          exact N_meet fun a ha => ⟨p1610, c1611, sg1612, ho1614, M1615.pick [0] (by kernel_rfl), ha.sub (by kernel_rfl)⟩
        refine G_cond_f (b := (y1574.Guest == x1412)) hc1600 (by kernel_rfl) ?_
        refine G_skip ?_
        obtain rfl := Option.some.inj hm
        exact N_meet fun a ha => ⟨p1562, c1563, sg1564, ho1565, M1557.pick [0] (by kernel_rfl), ha.sub (by kernel_rfl)⟩
      intro a1619 w1617 ⟨p1595, c1596, sg1597, ho1598, M1618, hS1620⟩
      refine N_use hS1620 ?_
      have hm := hm1594
      refine N_block ?_
      refine N_then ?_
      refine G_region ?_
      refine W_run 3 [(0, .slice p1409 x1407.length c1410), (1, .int .i64 x1412), (6, .slice p1595 o1592.length c1596), (7, .int .i64 (w64 (s1552.2 + 1)))] w1617 (by kernel_rfl) ?_
      refine W_nil ?_
      obtain rfl := Option.some.inj hm
      exact N_loop fun a ha => ⟨_, rfl, p1595, c1596, sg1597, ho1598, M1618.pick [0] (by kernel_rfl), ha.sub (by kernel_rfl)⟩
    refine G_cond_f (b := (decide (s1552.2 < (x1407.length : Int)))) hc1573 (by kernel_rfl) ?_
    refine G_exit ?_
    refine N_then_exit ?_
    refine N_then_exit ?_
    refine N_block_eq ?_
    obtain rfl := Option.some.inj hm
    obtain rfl := hout1554 _ rfl
    exact N_meet fun a ha => ⟨p1562, c1563, sg1564, ho1565, M1557.pick [0] (by kernel_rfl), ha.sub (by kernel_rfl)⟩
  intro a1621 w1622 ⟨p1568, c1569, sg1570, ho1571, M1623, hS1624⟩
  refine N_use hS1624 ?_
  have hm := hmo1561
  refine N_then ?_
  refine G_seq ?_
  refine G_region ?_
  refine W_run 3 [(4, .slice p1568 out1559.length c1569), (5, .bool true)] w1622 (by kernel_rfl) ?_
  refine W_nil ?_
  refine N_then ?_
  refine G_ret ?_
  obtain rfl := Option.some.inj hm
  refine N_ret [.slice p1568 out1559.length c1569, .bool true] (RVs_cons (RV_tmp (by kernel_rfl)) (RVs_cons (RV_tmp (by kernel_rfl)) RVs_nil)) ?_
  exact ⟨p1568, c1569, sg1570, rfl, ho1571, M1623.pick [0] (by kernel_rfl)⟩
theorem c_i_EventsOf_1 (w : World) (x1761 : Event) (x1762 : Int) (b1763 : Nat) (hb1764 : w.heap[b1763]? = some (.cells ⟨[.int .i64 x1762]⟩ 3 (0, 0))) {r : Bool} (hm : M.i_EventsOf_1 x1761 x1762 = some r) :
    Calls Try.prog 63 #[.agg #[.int .i64 x1761.Tick, .int .i64 x1761.Guest, .string x1761.Kind, .int .i64 x1761.Value], .pointer (some ⟨b1763, 0, none⟩)] w fun e w' => e = .returned (.bool r) ∧ Mem [] w w' [] := by
  unfold M.i_EventsOf_1 at hm
  refine C_enter Try.func63 rfl (by kernel_rfl) ?_
  have M0 := Mem.refl [] w
  refine G_seq ?_
  refine G_region ?_
  refine W_new (fun b => .pointer (some ⟨b, 0, none⟩)) (.cells ⟨[.int .i64 x1761.Tick, .int .i64 x1761.Guest, .string x1761.Kind, .int .i64 x1761.Value]⟩ 26 (0, 0)) M0 rfl (by kernel_rfl) (by kernel_rfl) ?_
  intro b1767 w1768 M1769
  refine W_run 1 [(1, .pointer (some ⟨b1763, 0, none⟩)), (2, .pointer (some ⟨b1767, 0, none⟩))] w1768 (by kernel_rfl) ?_
  refine W_nil ?_
  refine N_then ?_
  refine G_seq ?_
  refine G_region ?_
  refine W_run 1 [(1, .pointer (some ⟨b1763, 0, none⟩)), (4, .pointer (some ⟨b1767, 1, none⟩))] w1768 (by kernel_rfl) ?_
  refine W_val (.int .i64 x1761.Guest) w1768 (by kernel_rfl) (E_load (e := 26) (fr := (0, 0)) _ _ false 1 b1767 1 [.int .i64 x1761.Tick, .int .i64 x1761.Guest, .string x1761.Kind, .int .i64 x1761.Value] (.int .i64 x1761.Guest) rfl (by kernel_rfl) (by kernel_rfl) (by kernel_rfl) (M1769.blk 0 (b := b1767) (o := .cells ⟨[.int .i64 x1761.Tick, .int .i64 x1761.Guest, .string x1761.Kind, .int .i64 x1761.Value]⟩ 26 (0, 0)) (by kernel_rfl))) ?_
  refine W_val (.int .i64 x1762) w1768 (by kernel_rfl) (E_load (e := 3) (fr := (0, 0)) _ _ false 1 b1763 0 [.int .i64 x1762] (.int .i64 x1762) rfl (by kernel_rfl) (by kernel_rfl) (by kernel_rfl) (M1769.ro hb1764)) ?_
  refine W_run 2 [(3, .bool (x1761.Guest == x1762))] w1768 (by kernel_rfl) ?_
  refine W_nil ?_
  refine N_then ?_
  refine G_ret ?_
  obtain rfl := Option.some.inj hm
  refine N_ret [.bool (x1761.Guest == x1762)] (RVs_cons (RV_tmp (by kernel_rfl)) RVs_nil) ?_
  exact ⟨rfl, M1769.pick [] (by kernel_rfl)⟩
theorem c_i_eventsWhere_1__i_EventsOf_1 (w : World) (x1749 : Event) (x1750 : Int) (b1751 : Nat) (hb1752 : w.heap[b1751]? = some (.cells ⟨[.int .i64 x1750]⟩ 3 (0, 0))) (b1754 : Nat) (hb1755 : w.heap[b1754]? = some (.cells ⟨[.func (.func 63) #[] #[.pointer (some ⟨b1751, 0, none⟩)]]⟩ 25 (0, 0))) {r : Bool} (hm : M.i_eventsWhere_1__i_EventsOf_1 x1749 x1750 = some r) :
    Calls Try.prog 82 #[.agg #[.int .i64 x1749.Tick, .int .i64 x1749.Guest, .string x1749.Kind, .int .i64 x1749.Value], .pointer (some ⟨b1754, 0, none⟩)] w fun e w' => e = .returned (.bool r) ∧ Mem [] w w' [] := by
  unfold M.i_eventsWhere_1__i_EventsOf_1 at hm
  refine C_enter Try.func82 rfl (by kernel_rfl) ?_
  have M0 := Mem.refl [] w
  refine G_seq ?_
  refine G_region ?_
  refine W_new (fun b => .pointer (some ⟨b, 0, none⟩)) (.cells ⟨[.int .i64 x1749.Tick, .int .i64 x1749.Guest, .string x1749.Kind, .int .i64 x1749.Value]⟩ 26 (0, 0)) M0 rfl (by kernel_rfl) (by kernel_rfl) ?_
  intro b1758 w1759 M1760
  refine W_run 1 [(1, .pointer (some ⟨b1754, 0, none⟩)), (2, .pointer (some ⟨b1758, 0, none⟩))] w1759 (by kernel_rfl) ?_
  refine W_nil ?_
  refine N_then ?_
  refine G_seq ?_
  refine G_region ?_
  refine W_val (.func (.func 63) #[] #[.pointer (some ⟨b1751, 0, none⟩)]) w1759 (by kernel_rfl) (E_load (e := 25) (fr := (0, 0)) _ _ false 1 b1754 0 [.func (.func 63) #[] #[.pointer (some ⟨b1751, 0, none⟩)]] (.func (.func 63) #[] #[.pointer (some ⟨b1751, 0, none⟩)]) rfl (by kernel_rfl) (by kernel_rfl) (by kernel_rfl) (M1760.ro hb1755)) ?_
  refine W_val (.agg #[.int .i64 x1749.Tick, .int .i64 x1749.Guest, .string x1749.Kind, .int .i64 x1749.Value]) w1759 (by kernel_rfl) (E_load (e := 26) (fr := (0, 0)) _ _ true 4 b1758 0 [.int .i64 x1749.Tick, .int .i64 x1749.Guest, .string x1749.Kind, .int .i64 x1749.Value] (.agg #[.int .i64 x1749.Tick, .int .i64 x1749.Guest, .string x1749.Kind, .int .i64 x1749.Value]) rfl (by kernel_rfl) (by kernel_rfl) (by kernel_rfl) (M1760.blk 0 (b := b1758) (o := .cells ⟨[.int .i64 x1749.Tick, .int .i64 x1749.Guest, .string x1749.Kind, .int .i64 x1749.Value]⟩ 26 (0, 0)) (by kernel_rfl))) ?_
  obtain ⟨r1770, hr1770, hm⟩ := gx_bind hm
  refine W_call 63 #[.agg #[.int .i64 x1749.Tick, .int .i64 x1749.Guest, .string x1749.Kind, .int .i64 x1749.Value], .pointer (some ⟨b1751, 0, none⟩)] (by kernel_rfl) (by kernel_rfl) ?_
  refine (c_i_EventsOf_1 w1759 x1749 x1750 b1751 (M1760.ro hb1752) hr1770).mono ?_
  rintro e_ w1771 ⟨rfl, K1772⟩
  have M1773 := M1760.call0 K1772
  refine ⟨_, rfl, ?_⟩
  refine W_run 2 [(3, .bool (!r1770))] w1771 (by kernel_rfl) ?_
  refine W_nil ?_
  refine N_then ?_
  refine G_ret ?_
  obtain rfl := Option.some.inj hm
  refine N_ret [.bool (!r1770)] (RVs_cons (RV_tmp (by kernel_rfl)) RVs_nil) ?_
  exact ⟨rfl, M1773.pick [] (by kernel_rfl)⟩
theorem c_slices_IndexFunc_59__i_eventsWhere_1__i_EventsOf_1 (w : World) (x1735 : List Event) (p1737 : Option Addr) (c1738 : Nat) (h1739 : rdS encEvent w x1735 p1737 c1738) (x1740 : Int) (b1741 : Nat) (hb1742 : w.heap[b1741]? = some (.cells ⟨[.int .i64 x1740]⟩ 3 (0, 0))) (b1744 : Nat) (hb1745 : w.heap[b1744]? = some (.cells ⟨[.func (.func 63) #[] #[.pointer (some ⟨b1741, 0, none⟩)]]⟩ 25 (0, 0))) {r : Int} (hm : M.slices_IndexFunc_59__i_eventsWhere_1__i_EventsOf_1 x1735 x1740 = some r) :
    Calls Try.prog 59 #[.slice p1737 x1735.length c1738, .func (.func 82) #[] #[.pointer (some ⟨b1744, 0, none⟩)]] w fun e w' => e = .returned (.int .i64 r) ∧ Mem [] w w' [] := by
  unfold M.slices_IndexFunc_59__i_eventsWhere_1__i_EventsOf_1 at hm
  refine C_enter Try.func59 rfl (by kernel_rfl) ?_
  have M0 := Mem.refl [] w
  refine G_seq ?_
  refine G_region ?_
  refine W_run 1 [(0, .slice p1737 x1735.length c1738), (1, .func (.func 82) #[] #[.pointer (some ⟨b1744, 0, none⟩)])] w (by kernel_rfl) ?_
  refine W_nil ?_
  refine N_then ?_
  refine G_seq ?_
  refine G_seq ?_
  refine G_region ?_
  refine W_run 3 [(0, .slice p1737 x1735.length c1738), (1, .func (.func 82) #[] #[.pointer (some ⟨b1744, 0, none⟩)]), (7, .int .i64 (x1735.length : Int)), (8, .int .i64 0)] w (by kernel_rfl) ?_
  refine W_nil ?_
  refine N_then ?_
  obtain ⟨out1793, hw1794, hmo1795⟩ := gx_bind hm
  refine G_meet (fun a w' => ∃ (o1796 : Unit), out1793 = .inl o1796 ∧ Mem [] w w' [] ∧ Sat Try.f59.ntmps [] a) ?_ ?_
  · refine G_block ?_
    refine G_while (σ := Int) (ρ := (Unit) ⊕ (Int)) (fun s1786 a w' => Mem [] w w' [] ∧ Sat Try.f59.ntmps [(0, .slice p1737 x1735.length c1738), (1, .func (.func 82) #[] #[.pointer (some ⟨b1744, 0, none⟩)]), (7, .int .i64 (x1735.length : Int)), (8, .int .i64 s1786)] a) hw1794 (fun a ha => ⟨M0.pick [] (by kernel_rfl), ha.sub (by kernel_rfl)⟩) ?_
    clear hm
    intro s1786 x1787 hm hout1788 a1789 w1790 ⟨M1791, hS1792⟩
    refine G_use hS1792 ?_
    refine G_seq ?_
    refine G_region ?_
    refine W_run 1 [(0, .slice p1737 x1735.length c1738), (1, .func (.func 82) #[] #[.pointer (some ⟨b1744, 0, none⟩)]), (7, .int .i64 (x1735.length : Int)), (8, .int .i64 s1786), (9, .bool (decide (s1786 < (x1735.length : Int))))] w1790 (by kernel_rfl) ?_
    refine W_nil ?_
    refine N_then ?_
    refine G_seq ?_
    rcases gx_bif hm with ⟨hc1797, hm⟩ | ⟨hc1797, hm⟩
    · refine G_cond_t (b := (decide (s1786 < (x1735.length : Int)))) hc1797 (by kernel_rfl) ?_
      refine G_skip ?_
      refine N_then ?_
      refine G_seq ?_
      refine G_block ?_
      refine G_seq ?_
      refine G_region ?_
      refine W_run 2 [(0, .slice p1737 x1735.length c1738), (1, .func (.func 82) #[] #[.pointer (some ⟨b1744, 0, none⟩)]), (5, .int .i64 s1786), (7, .int .i64 (x1735.length : Int)), (8, .int .i64 s1786)] w1790 (by kernel_rfl) ?_
      refine W_nil ?_
      refine N_then ?_
      refine G_seq ?_
      refine G_region ?_
      refine W_run 3 [(0, .slice p1737 x1735.length c1738), (1, .func (.func 82) #[] #[.pointer (some ⟨b1744, 0, none⟩)]), (5, .int .i64 s1786), (7, .int .i64 (x1735.length : Int)), (8, .int .i64 s1786), (11, .func (.func 82) #[] #[.pointer (some ⟨b1744, 0, none⟩)]), (12, .slice p1737 x1735.length c1738), (13, .int .i64 s1786)] w1790 (by kernel_rfl) ?_
      obtain ⟨y1798, hy1798, hm⟩ := gx_bind hm
      refine W_val (elemP p1737 (s1786.toNat * 4)) w1790 (by kernel_rfl) (E_index (E := encEvent) _ _ _ x1735.length c1738 .i64 s1786 4 (y := y1798) rfl (by kernel_rfl) (by kernel_rfl) (by kernel_rfl) (h1739.mem0 M1791) rfl hy1798) ?_
      refine W_val (.agg #[.int .i64 y1798.Tick, .int .i64 y1798.Guest, .string y1798.Kind, .int .i64 y1798.Value]) w1790 (by kernel_rfl) (E_loadE (E := encEvent) _ _ true 4 s1786 0 (s1786.toNat * 4) y1798 (.agg #[.int .i64 y1798.Tick, .int .i64 y1798.Guest, .string y1798.Kind, .int .i64 y1798.Value]) rfl (by kernel_rfl) (by kernel_rfl) (by kernel_rfl) (h1739.mem0 M1791) hy1798 rfl) ?_
      obtain ⟨r1799, hr1799, hm⟩ := gx_bind hm
      refine W_call 82 #[.agg #[.int .i64 y1798.Tick, .int .i64 y1798.Guest, .string y1798.Kind, .int .i64 y1798.Value], .pointer (some ⟨b1744, 0, none⟩)] (by kernel_rfl) (by kernel_rfl) ?_
      refine (c_i_eventsWhere_1__i_EventsOf_1 w1790 y1798 x1740 b1741 (M1791.ro hb1742) b1744 (M1791.ro hb1745) hr1799).mono ?_
      rintro e_ w1800 ⟨rfl, K1801⟩
      have M1802 := M1791.call0 K1801
      refine ⟨_, rfl, ?_⟩
      refine W_nil ?_
      refine N_then ?_
      rcases gx_bif hm with ⟨hc1803, hm⟩ | ⟨hc1803, hm⟩
      · refine G_cond_t (b := r1799) hc1803 (by kernel_rfl) ?_
        refine G_seq ?_
        refine G_region ?_
        refine W_run 2 [(4, .int .i64 s1786)] w1800 (by kernel_rfl) ?_
        refine W_nil ?_
        refine N_then ?_
        refine G_ret ?_
        refine N_block_ret ?_
        refine N_then_ret ?_
        refine N_then_ret ?_
        obtain rfl := Option.some.inj hm
        obtain rfl := hout1788 _ rfl
        have hm := hmo1795; simp only [Sum.elim_inr] at hm
        refine N_block_ret ?_
        refine N_meet_ret ?_
        refine N_then_ret ?_
        obtain rfl := Option.some.inj hm
        refine N_ret [.int .i64 s1786] (RVs_cons (RV_tmp (by kernel_rfl)) RVs_nil) ?_
        exact ⟨rfl, M1802.pick [] (by kernel_rfl)⟩
      refine G_cond_f (b := r1799) hc1803 (by kernel_rfl) ?_
      refine G_skip ?_
      refine N_block ?_
      refine N_then ?_
      refine G_region ?_
      refine W_run 2 [(0, .slice p1737 x1735.length c1738), (1, .func (.func 82) #[] #[.pointer (some ⟨b1744, 0, none⟩)]), (7, .int .i64 (x1735.length : Int)), (8, .int .i64 (w64 (s1786 + 1)))] w1800 (by kernel_rfl) ?_
      refine W_nil ?_
      obtain rfl := Option.some.inj hm
      exact N_loop fun a ha => ⟨_, rfl, M1802.pick [] (by kernel_rfl), ha.sub (by kernel_rfl)⟩
    refine G_cond_f (b := (decide (s1786 < (x1735.length : Int)))) hc1797 (by kernel_rfl) ?_
    refine G_exit ?_
    refine N_then_exit ?_
    refine N_then_exit ?_
    refine N_block_eq ?_
    obtain rfl := Option.some.inj hm
    obtain rfl := hout1788 _ rfl
    exact N_meet fun a ha => ⟨_, rfl, M1791.pick [] (by kernel_rfl), ha.sub (by kernel_rfl)⟩
  intro a1804 w1805 ⟨o1796, hout_, M1806, hS1807⟩
  refine N_use hS1807 ?_
  subst hout_
  have hm := hmo1795; simp only [Sum.elim_inl] at hm
  refine N_then ?_
  refine G_seq ?_
  refine G_region ?_
  refine W_run 1 [(4, .int .i64 (-1))] w1805 (by kernel_rfl) ?_
  refine W_nil ?_
  refine N_then ?_
  refine G_ret ?_
  obtain rfl := Option.some.inj hm
  refine N_ret [.int .i64 (-1)] (RVs_cons (RV_tmp (by kernel_rfl)) RVs_nil) ?_
  exact ⟨rfl, M1806.pick [] (by kernel_rfl)⟩
theorem c_slices_DeleteFunc_81__i_eventsWhere_1__i_EventsOf_1 (w : World) (x1839 : List Event) (p1841 : Option Addr) (c1842 : Nat) (sg1843 : Seg) (ho1844 : ownS encEvent x1839 p1841 c1842 sg1843) (x1845 : Int) (b1846 : Nat) (hb1847 : w.heap[b1846]? = some (.cells ⟨[.int .i64 x1845]⟩ 3 (0, 0))) (b1850 : Nat) (hb1851 : w.heap[b1850]? = some (.cells ⟨[.func (.func 63) #[] #[.pointer (some ⟨b1846, 0, none⟩)]]⟩ 25 (0, 0))) (hA : ∀ q ∈ List.flatten [sg1843], w.heap[q.1]? = some q.2) (hN : (idsOf [sg1843]).Nodup) (nf1849 : b1846 ∉ (idsOf [sg1843])) (nf1853 : b1850 ∉ (idsOf [sg1843])) {r : (List Event) × (List Event)} (hm : M.slices_DeleteFunc_81__i_eventsWhere_1__i_EventsOf_1 x1839 x1845 = some r) :
    Calls Try.prog 81 #[.slice p1841 x1839.length c1842, .func (.func 82) #[] #[.pointer (some ⟨b1850, 0, none⟩)]] w fun e w' => ∃ (sg1854 : Seg), ∃ (p1856 : Option Addr) (c1857 : Nat), e = .returned (.slice p1856 r.1.length c1857) ∧ ownS encEvent r.2 p1841 c1842 sg1854 ∧ r.2.length = x1839.length ∧ viewS 4 r.2 p1841 c1842 p1856 c1857 r.1 ∧ Mem (idsOf [sg1843]) w w' [sg1854] := by
  unfold M.slices_DeleteFunc_81__i_eventsWhere_1__i_EventsOf_1 at hm
  refine C_enter Try.func81 rfl (by kernel_rfl) ?_
  have M0 := Mem.start' w [sg1843] hA hN
  refine G_seq ?_
  refine G_region ?_
  refine W_run 1 [(0, .slice p1841 x1839.length c1842), (1, .func (.func 82) #[] #[.pointer (some ⟨b1850, 0, none⟩)])] w (by kernel_rfl) ?_
  refine W_nil ?_
  refine N_then ?_
  refine G_seq ?_
  refine G_region ?_
  refine W_run 2 [(0, .slice p1841 x1839.length c1842), (1, .func (.func 82) #[] #[.pointer (some ⟨b1850, 0, none⟩)]), (8, .slice p1841 x1839.length c1842), (9, .func (.func 82) #[] #[.pointer (some ⟨b1850, 0, none⟩)])] w (by kernel_rfl) ?_
  obtain ⟨r1859, hr1859, hm⟩ := gx_bind hm
  refine W_call 59 #[.slice p1841 x1839.length c1842, .func (.func 82) #[] #[.pointer (some ⟨b1850, 0, none⟩)]] (by kernel_rfl) (by kernel_rfl) ?_
  refine (c_slices_IndexFunc_59__i_eventsWhere_1__i_EventsOf_1 w x1839 p1841 c1842 (ho1844.rd M0 0 (by kernel_rfl)) x1845 b1846 (M0.roX hb1847 nf1849) b1850 (M0.roX hb1851 nf1853) hr1859).mono ?_
  rintro e_ w1860 ⟨rfl, K1861⟩
  have M1862 := M0.call0 K1861
  refine ⟨_, rfl, ?_⟩
  refine W_run 1 [(0, .slice p1841 x1839.length c1842), (1, .func (.func 82) #[] #[.pointer (some ⟨b1850, 0, none⟩)]), (5, .int .i64 r1859)] w1860 (by kernel_rfl) ?_
  refine W_nil ?_
  refine N_then ?_
  refine G_seq ?_
  refine G_seq ?_
  refine G_region ?_
  refine W_run 2 [(0, .slice p1841 x1839.length c1842), (1, .func (.func 82) #[] #[.pointer (some ⟨b1850, 0, none⟩)]), (5, .int .i64 r1859), (12, .bool (r1859 == (-1)))] w1860 (by kernel_rfl) ?_
  refine W_nil ?_
  refine N_then ?_
  rcases gx_bif hm with ⟨hc1863, hm⟩ | ⟨hc1863, hm⟩
  · refine G_cond_t (b := (r1859 == (-1))) hc1863 (by kernel_rfl) ?_
    refine G_seq ?_
    refine G_region ?_
    refine W_run 2 [(4, .slice p1841 x1839.length c1842)] w1860 (by kernel_rfl) ?_
    refine W_nil ?_
    refine N_then ?_
    refine G_ret ?_
    refine N_then_ret ?_
    obtain rfl := Option.some.inj hm
    refine N_ret [.slice p1841 x1839.length c1842] (RVs_cons (RV_tmp (by kernel_rfl)) RVs_nil) ?_
    exact ⟨sg1843, p1841, c1842, rfl, ho1844, rfl, (viewS_self ho1844), M1862.pick [0] (by kernel_rfl)⟩
  refine G_cond_f (b := (r1859 == (-1))) hc1863 (by kernel_rfl) ?_
  refine G_skip ?_
  refine N_then ?_
  refine G_seq ?_
  refine G_seq ?_
  refine G_region ?_
  refine W_run 3 [(0, .slice p1841 x1839.length c1842), (1, .func (.func 82) #[] #[.pointer (some ⟨b1850, 0, none⟩)]), (5, .int .i64 r1859), (6, .int .i64 (w64 (r1859 + 1)))] w1860 (by kernel_rfl) ?_
  refine W_nil ?_
  refine N_then ?_
  obtain ⟨out1942, hw1943, hmo1944⟩ := gx_bind hm
  refine G_meet (fun a w' => ∃ (sg1949 : Seg), ownS encEvent out1942.2 p1841 c1842 sg1949 ∧ out1942.2.length = x1839.length ∧ Mem (idsOf [sg1843]) w w' [sg1949] ∧ Sat Try.f81.ntmps [(0, .slice p1841 out1942.2.length c1842), (5, .int .i64 out1942.1)] a) ?_ ?_
  · refine G_block ?_
    refine G_while (σ := Int × Int × List Event) (ρ := Int × List Event) (fun s1935 a w' => ∃ (sg1945 : Seg), ownS encEvent s1935.2.2 p1841 c1842 sg1945 ∧ s1935.2.2.length = x1839.length ∧ Mem (idsOf [sg1843]) w w' [sg1945] ∧ Sat Try.f81.ntmps [(0, .slice p1841 s1935.2.2.length c1842), (1, .func (.func 82) #[] #[.pointer (some ⟨b1850, 0, none⟩)]), (5, .int .i64 s1935.1), (6, .int .i64 s1935.2.1)] a) hw1943 (fun a ha => ⟨sg1843, ho1844, rfl, M1862.pick [0] (by kernel_rfl), ha.sub (by kernel_rfl)⟩) ?_
    clear hm
    intro s1935 x1936 hm hout1937 a1938 w1939 ⟨sg1945, ho1946, hl1947, M1940, hS1941⟩
    refine G_use hS1941 ?_
    refine G_seq ?_
    refine G_seq ?_
    refine G_region ?_
    refine W_run 4 [(0, .slice p1841 s1935.2.2.length c1842), (1, .func (.func 82) #[] #[.pointer (some ⟨b1850, 0, none⟩)]), (5, .int .i64 s1935.1), (6, .int .i64 s1935.2.1), (19, .bool (decide (s1935.2.1 < (s1935.2.2.length : Int))))] w1939 (by kernel_rfl) ?_
    refine W_nil ?_
    refine N_then ?_
    rcases gx_bif hm with ⟨hc1952, hm⟩ | ⟨hc1952, hm⟩
    · refine G_cond_t (b := (decide (s1935.2.1 < (s1935.2.2.length : Int)))) hc1952 (by kernel_rfl) ?_
      refine G_skip ?_
      refine N_then ?_
      refine G_seq ?_
      refine G_block ?_
      refine G_seq ?_
      refine G_region ?_
      refine W_run 2 [(0, .slice p1841 s1935.2.2.length c1842), (1, .func (.func 82) #[] #[.pointer (some ⟨b1850, 0, none⟩)]), (5, .int .i64 s1935.1), (6, .int .i64 s1935.2.1), (22, .slice p1841 s1935.2.2.length c1842), (23, .int .i64 s1935.2.1)] w1939 (by kernel_rfl) ?_
      obtain ⟨y1953, hy1953, hm⟩ := gx_bind hm
      refine W_val (elemP p1841 (s1935.2.1.toNat * 4)) w1939 (by kernel_rfl) (E_index (E := encEvent) _ _ _ s1935.2.2.length c1842 .i64 s1935.2.1 4 (y := y1953) rfl (by kernel_rfl) (by kernel_rfl) (by kernel_rfl) (ho1946.rd M1940 0 (by kernel_rfl)) rfl hy1953) ?_
      refine W_val (.agg #[.int .i64 y1953.Tick, .int .i64 y1953.Guest, .string y1953.Kind, .int .i64 y1953.Value]) w1939 (by kernel_rfl) (E_loadE (E := encEvent) _ _ true 4 s1935.2.1 0 (s1935.2.1.toNat * 4) y1953 (.agg #[.int .i64 y1953.Tick, .int .i64 y1953.Guest, .string y1953.Kind, .int .i64 y1953.Value]) rfl (by kernel_rfl) (by kernel_rfl) (by kernel_rfl) (ho1946.rd M1940 0 (by kernel_rfl)) hy1953 rfl) ?_
      refine W_new (fun b => .pointer (some ⟨b, 0, none⟩)) (.cells ⟨[.int .i64 0, .int .i64 0, .string ByteArray.empty, .int .i64 0]⟩ 26 (0, 0)) M1940 rfl (by kernel_rfl) (by kernel_rfl) ?_
      intro b1955 w1956 M1957
      refine W_store _ _ _ true 4 b1955 0 [.int .i64 0, .int .i64 0, .string ByteArray.empty, .int .i64 0] 26 (.agg #[.int .i64 y1953.Tick, .int .i64 y1953.Guest, .string y1953.Kind, .int .i64 y1953.Value]) 1 [.int .i64 y1953.Tick, .int .i64 y1953.Guest, .string y1953.Kind, .int .i64 y1953.Value] M1957 (by kernel_rfl) rfl (by kernel_rfl) (by kernel_rfl) (by kernel_rfl) (by kernel_rfl) (by kernel_rfl) (by kernel_rfl) (by kernel_rfl) (by kernel_rfl) ?_
      intro w1958 M1959
      refine W_nil ?_
      refine N_then ?_
      refine G_seq ?_
      refine G_region ?_
      refine W_run 1 [(0, .slice p1841 s1935.2.2.length c1842), (1, .func (.func 82) #[] #[.pointer (some ⟨b1850, 0, none⟩)]), (5, .int .i64 s1935.1), (6, .int .i64 s1935.2.1), (7, .pointer (some ⟨b1955, 0, none⟩)), (26, .func (.func 82) #[] #[.pointer (some ⟨b1850, 0, none⟩)])] w1958 (by kernel_rfl) ?_
      refine W_val (.agg #[.int .i64 y1953.Tick, .int .i64 y1953.Guest, .string y1953.Kind, .int .i64 y1953.Value]) w1958 (by kernel_rfl) (E_load (e := 26) (fr := (0, 0)) _ _ true 4 b1955 0 [.int .i64 y1953.Tick, .int .i64 y1953.Guest, .string y1953.Kind, .int .i64 y1953.Value] (.agg #[.int .i64 y1953.Tick, .int .i64 y1953.Guest, .string y1953.Kind, .int .i64 y1953.Value]) rfl (by kernel_rfl) (by kernel_rfl) (by kernel_rfl) (M1959.blk 1 (b := b1955) (o := .cells ⟨[.int .i64 y1953.Tick, .int .i64 y1953.Guest, .string y1953.Kind, .int .i64 y1953.Value]⟩ 26 (0, 0)) (by kernel_rfl))) ?_
      obtain ⟨r1960, hr1960, hm⟩ := gx_bind hm
      refine W_call 82 #[.agg #[.int .i64 y1953.Tick, .int .i64 y1953.Guest, .string y1953.Kind, .int .i64 y1953.Value], .pointer (some ⟨b1850, 0, none⟩)] (by kernel_rfl) (by kernel_rfl) ?_
      refine (c_i_eventsWhere_1__i_EventsOf_1 w1958 y1953 x1845 b1846 (M1959.roX hb1847 nf1849) b1850 (M1959.roX hb1851 nf1853) hr1960).mono ?_
      rintro e_ w1961 ⟨rfl, K1962⟩
      have M1963 := M1959.call0 K1962
      refine ⟨_, rfl, ?_⟩
      refine W_run 1 [(0, .slice p1841 s1935.2.2.length c1842), (1, .func (.func 82) #[] #[.pointer (some ⟨b1850, 0, none⟩)]), (5, .int .i64 s1935.1), (6, .int .i64 s1935.2.1), (7, .pointer (some ⟨b1955, 0, none⟩)), (29, .bool (!r1960))] w1961 (by kernel_rfl) ?_
      refine W_nil ?_
      refine N_then ?_
      obtain ⟨o1970, ho1971, hm1972⟩ := gx_bind hm
      refine G_meet (fun a w' => ∃ (sg1973 : Seg), ownS encEvent o1970.2 p1841 c1842 sg1973 ∧ o1970.2.length = x1839.length ∧ Mem (idsOf [sg1843]) w w' [sg1973] ∧ Sat Try.f81.ntmps [(0, .slice p1841 o1970.2.length c1842), (1, .func (.func 82) #[] #[.pointer (some ⟨b1850, 0, none⟩)]), (5, .int .i64 o1970.1), (6, .int .i64 s1935.2.1)] a) ?_ ?_
      · have hm := ho1971
        rcases gx_bif hm with ⟨hc1976, hm⟩ | ⟨hc1976, hm⟩
        · refine G_cond_t (b := (!r1960)) hc1976 (by kernel_rfl) ?_
          refine G_seq ?_
          refine G_region ?_
          refine W_run 2 [(0, .slice p1841 s1935.2.2.length c1842), (1, .func (.func 82) #[] #[.pointer (some ⟨b1850, 0, none⟩)]), (5, .int .i64 s1935.1), (6, .int .i64 s1935.2.1), (7, .pointer (some ⟨b1955, 0, none⟩)), (30, .slice p1841 s1935.2.2.length c1842), (31, .int .i64 s1935.1)] w1961 (by kernel_rfl) ?_
          refine W_val (.agg #[.int .i64 y1953.Tick, .int .i64 y1953.Guest, .string y1953.Kind, .int .i64 y1953.Value]) w1961 (by kernel_rfl) (E_load (e := 26) (fr := (0, 0)) _ _ true 4 b1955 0 [.int .i64 y1953.Tick, .int .i64 y1953.Guest, .string y1953.Kind, .int .i64 y1953.Value] (.agg #[.int .i64 y1953.Tick, .int .i64 y1953.Guest, .string y1953.Kind, .int .i64 y1953.Value]) rfl (by kernel_rfl) (by kernel_rfl) (by kernel_rfl) (M1963.blk 1 (b := b1955) (o := .cells ⟨[.int .i64 y1953.Tick, .int .i64 y1953.Guest, .string y1953.Kind, .int .i64 y1953.Value]⟩ 26 (0, 0)) (by kernel_rfl))) ?_
          obtain ⟨y1977, hy1977, hm⟩ := gx_bind hm
          refine W_val (elemP p1841 (s1935.1.toNat * 4)) w1961 (by kernel_rfl) (E_index (E := encEvent) _ _ _ s1935.2.2.length c1842 .i64 s1935.1 4 (y := y1977) rfl (by kernel_rfl) (by kernel_rfl) (by kernel_rfl) (ho1946.rd M1963 0 (by kernel_rfl)) rfl hy1977) ?_
          refine W_storeE (E := encEvent) _ _ _ true 4 s1935.1.toNat 0 (s1935.1.toNat * 4) y1977 y1953 (.agg #[.int .i64 y1953.Tick, .int .i64 y1953.Guest, .string y1953.Kind, .int .i64 y1953.Value]) 0 M1963 ho1946 (by kernel_rfl) (by kernel_rfl) rfl (by kernel_rfl) (by kernel_rfl) (by kernel_rfl) (by kernel_rfl) (by kernel_rfl) (by kernel_rfl) (by kernel_rfl) (gxIdx_spec hy1977).2 rfl ?_
          intro w1978 sg1980 ho1981 M1979
          refine W_conv 0 (.slice p1841 s1935.2.2.length c1842) (.slice p1841 (s1935.2.2.set s1935.1.toNat y1953).length c1842) (by kernel_rfl) (by rw [@List.length_set _ s1935.2.2 s1935.1.toNat y1953]) ?_
          refine W_conv 30 (.slice p1841 s1935.2.2.length c1842) (.slice p1841 (s1935.2.2.set s1935.1.toNat y1953).length c1842) (by kernel_rfl) (by rw [@List.length_set _ s1935.2.2 s1935.1.toNat y1953]) ?_
          refine W_nil ?_
          refine N_then ?_
          refine G_region ?_
          refine W_run 3 [(0, .slice p1841 (s1935.2.2.set s1935.1.toNat y1953).length c1842), (1, .func (.func 82) #[] #[.pointer (some ⟨b1850, 0, none⟩)]), (5, .int .i64 (w64 (s1935.1 + 1))), (6, .int .i64 s1935.2.1)] w1978 (by kernel_rfl) ?_
          refine W_nil ?_
          obtain rfl := Option.some.inj hm
          exact N_meet fun a ha => ⟨sg1980, ho1981, (List.length_set.trans hl1947), M1979.pick [0] (by kernel_rfl), ha.sub (by kernel_rfl)⟩
        refine G_cond_f (b := (!r1960)) hc1976 (by kernel_rfl) ?_
        refine G_skip ?_
        obtain rfl := Option.some.inj hm
        exact N_meet fun a ha => ⟨sg1945, ho1946, hl1947, M1963.pick [0] (by kernel_rfl), ha.sub (by kernel_rfl)⟩
      intro a1984 w1982 ⟨sg1973, ho1974, hl1975, M1983, hS1985⟩
      refine N_use hS1985 ?_
      have hm := hm1972
      refine N_block ?_
      refine N_then ?_
      refine G_region ?_
      refine W_run 3 [(0, .slice p1841 o1970.2.length c1842), (1, .func (.func 82) #[] #[.pointer (some ⟨b1850, 0, none⟩)]), (5, .int .i64 o1970.1), (6, .int .i64 (w64 (s1935.2.1 + 1)))] w1982 (by kernel_rfl) ?_
      refine W_nil ?_
      obtain rfl := Option.some.inj hm
      exact N_loop fun a ha => ⟨_, rfl, sg1973, ho1974, hl1975, M1983.pick [0] (by kernel_rfl), ha.sub (by kernel_rfl)⟩
    refine G_cond_f (b := (decide (s1935.2.1 < (s1935.2.2.length : Int)))) hc1952 (by kernel_rfl) ?_
    refine G_exit ?_
    refine N_then_exit ?_
    refine N_then_exit ?_
    refine N_block_eq ?_
    obtain rfl := Option.some.inj hm
    obtain rfl := hout1937 _ rfl
    exact N_meet fun a ha => ⟨sg1945, ho1946, hl1947, M1940.pick [0] (by kernel_rfl), ha.sub (by kernel_rfl)⟩
  intro a1986 w1987 ⟨sg1949, ho1950, hl1951, M1988, hS1989⟩
  refine N_use hS1989 ?_
  have hm := hmo1944
  refine N_then ?_
  refine G_seq ?_
  refine G_region ?_
  refine W_run 2 [(0, .slice p1841 out1942.2.length c1842), (5, .int .i64 out1942.1), (36, .slice p1841 out1942.2.length c1842), (37, .int .i64 out1942.1)] w1987 (by kernel_rfl) ?_
  obtain ⟨ys1990, hys1990, hm⟩ := gx_bind hm
  refine W_val (.slice (subP p1841 out1942.1.toNat c1842 4) ys1990.length (c1842 - out1942.1.toNat)) w1987 (by kernel_rfl) (E_slice (E := encEvent) _ _ _ _ out1942.2.length out1942.1 (out1942.2.length : Int) rfl (by kernel_rfl) (Or.inr ⟨_, rfl, by kernel_rfl⟩) (Or.inl ⟨rfl, rfl⟩) (by kernel_rfl) (ho1950.rd M1988 0 (by kernel_rfl)) rfl hys1990) ?_
  refine W_clear (E := encEvent) _ _ out1942.1 (out1942.2.length : Int) 40 [.int .i64 0, .int .i64 0, .string ByteArray.empty, .int .i64 0] ((⟨0, 0, ByteArray.empty, 0⟩ : Event) : Event) 0 M1988 ho1950 (by kernel_rfl) (by kernel_rfl) (by kernel_rfl) rfl (by kernel_rfl) hys1990 (by kernel_rfl) (by kernel_rfl) ?_
  intro w1992 sg1994 ho1995 M1993
  refine W_conv 0 (.slice p1841 out1942.2.length c1842) (.slice p1841 (gxClear out1942.2 out1942.1 (out1942.2.length : Int) ((⟨0, 0, ByteArray.empty, 0⟩ : Event) : Event)).length c1842) (by kernel_rfl) (by rw [gxClear_len ((⟨0, 0, ByteArray.empty, 0⟩ : Event) : Event) hys1990]) ?_
  refine W_conv 36 (.slice p1841 out1942.2.length c1842) (.slice p1841 (gxClear out1942.2 out1942.1 (out1942.2.length : Int) ((⟨0, 0, ByteArray.empty, 0⟩ : Event) : Event)).length c1842) (by kernel_rfl) (by rw [gxClear_len ((⟨0, 0, ByteArray.empty, 0⟩ : Event) : Event) hys1990]) ?_
  refine W_nil ?_
  refine N_then ?_
  refine G_seq ?_
  refine G_region ?_
  refine W_run 2 [(39, .slice p1841 (gxClear out1942.2 out1942.1 (out1942.2.length : Int) ((⟨0, 0, ByteArray.empty, 0⟩ : Event) : Event)).length c1842), (40, .int .i64 out1942.1)] w1992 (by kernel_rfl) ?_
  obtain ⟨ys1996, hys1996, hm⟩ := gx_bind hm
  refine W_val (.slice (subP p1841 (0 : Int).toNat c1842 4) ys1996.length (c1842 - (0 : Int).toNat)) w1992 (by kernel_rfl) (E_slice (E := encEvent) _ _ _ _ (gxClear out1942.2 out1942.1 (out1942.2.length : Int) ((⟨0, 0, ByteArray.empty, 0⟩ : Event) : Event)).length 0 out1942.1 rfl (by kernel_rfl) (Or.inl ⟨rfl, rfl⟩) (Or.inr ⟨_, rfl, by kernel_rfl⟩) (by kernel_rfl) (ho1995.rd M1993 0 (by kernel_rfl)) rfl hys1996) ?_
  refine W_run 1 [(4, .slice (subP p1841 (0 : Int).toNat c1842 4) ys1996.length (c1842 - (0 : Int).toNat))] w1992 (by kernel_rfl) ?_
  refine W_nil ?_
  refine N_then ?_
  refine G_ret ?_
  obtain rfl := Option.some.inj hm
  refine N_ret [.slice (subP p1841 (0 : Int).toNat c1842 4) ys1996.length (c1842 - (0 : Int).toNat)] (RVs_cons (RV_tmp (by kernel_rfl)) RVs_nil) ?_
  exact ⟨sg1994, (subP p1841 (0 : Int).toNat c1842 4), (c1842 - (0 : Int).toNat), rfl, ho1995, ((gxClear_len ((⟨0, 0, ByteArray.empty, 0⟩ : Event) : Event) hys1990).trans hl1951), ⟨0, out1942.1, rfl, rfl, hys1996⟩, M1993.pick [0] (by kernel_rfl)⟩
theorem c_i_eventsWhere__i_EventsOf_1 (w : World) (x1685 : List Event) (p1687 : Option Addr) (c1688 : Nat) (h1689 : rdS encEvent w x1685 p1687 c1688) (x1690 : Int) (b1691 : Nat) (hb1692 : w.heap[b1691]? = some (.cells ⟨[.int .i64 x1690]⟩ 3 (0, 0))) {r : (List Event)} (hm : M.i_eventsWhere__i_EventsOf_1 x1685 x1690 = some r) :
    Calls Try.prog 62 #[.slice p1687 x1685.length c1688, .func (.func 63) #[] #[.pointer (some ⟨b1691, 0, none⟩)]] w fun e w' => ∃ (p1695 : Option Addr) (c1696 : Nat) (sg1697 : Seg), e = .returned (.slice p1695 r.length c1696) ∧ ownS encEvent r p1695 c1696 sg1697 ∧ Mem [] w w' [sg1697] := by
  unfold M.i_eventsWhere__i_EventsOf_1 at hm
  refine C_enter Try.func62 rfl (by kernel_rfl) ?_
  have M0 := Mem.refl [] w
  refine G_seq ?_
  refine G_region ?_
  refine W_new (fun b => .pointer (some ⟨b, 0, none⟩)) (.cells ⟨[.func (.func 63) #[] #[.pointer (some ⟨b1691, 0, none⟩)]]⟩ 25 (0, 0)) M0 rfl (by kernel_rfl) (by kernel_rfl) ?_
  intro b1699 w1700 M1701
  refine W_run 1 [(0, .slice p1687 x1685.length c1688), (3, .pointer (some ⟨b1699, 0, none⟩))] w1700 (by kernel_rfl) ?_
  refine W_nil ?_
  refine N_then ?_
  refine G_seq ?_
  refine G_region ?_
  refine W_lit (E := encEvent) ([] : List Event) 0 [] 26 M1701 (by kernel_rfl) (by kernel_rfl) (by kernel_rfl) (by kernel_rfl) (by kernel_rfl) ?_
  intro p1703 c1704 sg1705 w1706 ho1707 M1708
  refine W_run 1 [(3, .pointer (some ⟨b1699, 0, none⟩)), (5, .slice p1703 ([] : List Event).length c1704), (6, .slice p1687 x1685.length c1688)] w1706 (by kernel_rfl) ?_
  obtain ⟨ap1710, hap1710, hm⟩ := gx_bind hm
  refine W_append (E := encEvent) _ _ _ 40 [.int .i64 0, .int .i64 0, .string ByteArray.empty, .int .i64 0] 1 c1688 M1708 ho1707 (by kernel_rfl) (by kernel_rfl) (by kernel_rfl) rfl (by kernel_rfl) (by kernel_rfl) (by kernel_rfl) (by kernel_rfl) (by kernel_rfl) (by kernel_rfl) (h1689.mem0 M1708) hap1710 ?_
  intro p1711 c1712 sg1713 w1714 ho1715 M1716
  refine W_run 1 [(7, .slice p1711 ap1710.length c1712), (8, .func (.func 82) #[] #[.pointer (some ⟨b1699, 0, none⟩)])] w1714 (by kernel_rfl) ?_
  obtain ⟨r1998, hr1998, hm⟩ := gx_bind hm
  refine W_call 81 #[.slice p1711 ap1710.length c1712, .func (.func 82) #[] #[.pointer (some ⟨b1699, 0, none⟩)]] (by kernel_rfl) (by kernel_rfl) ?_
  refine (c_slices_DeleteFunc_81__i_eventsWhere_1__i_EventsOf_1 w1714 ap1710 p1711 c1712 sg1713 ho1715 x1690 b1691 (M1716.ro hb1692) b1699 (M1716.blk 0 (b := b1699) (o := .cells ⟨[.func (.func 63) #[] #[.pointer (some ⟨b1691, 0, none⟩)]]⟩ 25 (0, 0)) (by kernel_rfl)) (M1716.hasPick [1]) (M1716.nodupPick [1] (by kernel_rfl)) (blkOld M1716 hb1692 (by simp) [1]) (blkApart M1716 0 (o := .cells ⟨[.func (.func 63) #[] #[.pointer (some ⟨b1691, 0, none⟩)]]⟩ 25 (0, 0)) (by kernel_rfl) [1] (by kernel_rfl)) hr1998).mono ?_
  rintro e_ w2009 ⟨sg1999, p2007, c2008, rfl, ho2000, hl2001, hw2006, K2010⟩
  obtain ⟨l2003, h2004, rfl, rfl, hv2005⟩ := hw2006
  have M2011 := M1716.callF' [1] [0] (by kernel_rfl) K2010
  refine ⟨_, rfl, ?_⟩
  refine W_conv 7 (.slice p1711 ap1710.length c1712) (.slice p1711 r1998.2.length c1712) (by kernel_rfl) (by first | rw [hl2001] | rw [hl2001]) ?_
  refine W_run 1 [(4, .slice (subP p1711 l2003.toNat c1712 4) r1998.1.length (c1712 - l2003.toNat))] w2009 (by kernel_rfl) ?_
  refine W_nil ?_
  refine N_then ?_
  refine G_ret ?_
  obtain rfl := Option.some.inj hm
  refine N_ret [.slice (subP p1711 l2003.toNat c1712 4) r1998.1.length (c1712 - l2003.toNat)] (RVs_cons (RV_tmp (by kernel_rfl)) RVs_nil) ?_
  exact ⟨(subP p1711 l2003.toNat c1712 4), (c1712 - l2003.toNat), sg1999, rfl, (ho2000.partM hv2005), M2011.pick [1] (by kernel_rfl)⟩
end Go.Proofs.Ytfcebglkdfadcaa
