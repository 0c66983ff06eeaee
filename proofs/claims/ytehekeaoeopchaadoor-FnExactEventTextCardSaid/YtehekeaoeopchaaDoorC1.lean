/- The walks, printed by program: whenever the model gives r, the call returns r. Part 1. -/
import Derived.Test.YtehekeaoeopchaaDoorM
import Derived.Test.YtehekeaoeopchaaDoorProg
import Derived.Test.YtehekeaoeopchaaDoorSh
set_option linter.unusedVariables false
set_option maxRecDepth 100000
set_option maxHeartbeats 4000000
namespace Go.Proofs.YtehekeaoeopchaaDoor
open Go.Gx
theorem c_l_szEvent (w : World) (x6 : Event) (x7 : Int) {r : Int} (hm : M.l_szEvent x6 x7 = some r) :
    Calls Tryd.prog 4 #[.agg #[.int .i64 x6.Tick, .int .i64 x6.Guest, .string x6.Kind, .int .i64 x6.Value], .int .i64 x7] w fun e w' => e = .returned (.int .i64 r) ∧ Mem [] w w' [] := by
  unfold M.l_szEvent at hm
  refine C_enter Tryd.func4 rfl (by kernel_rfl) ?_
  have M0 := Mem.refl [] w
  refine G_seq ?_
  refine G_region ?_
  refine W_new (fun b => .pointer (some ⟨b, 0, none⟩)) (.cells ⟨[.int .i64 x6.Tick, .int .i64 x6.Guest, .string x6.Kind, .int .i64 x6.Value]⟩ 23 (0, 0)) M0 rfl (by kernel_rfl) (by kernel_rfl) ?_
  intro b9 w10 M11
  refine W_run 1 [(1, .int .i64 x7), (2, .pointer (some ⟨b9, 0, none⟩))] w10 (by kernel_rfl) ?_
  refine W_nil ?_
  refine N_then ?_
  refine G_seq ?_
  refine G_region ?_
  refine W_run 2 [(1, .int .i64 x7), (5, .int .i64 x7), (6, .pointer (some ⟨b9, 2, none⟩))] w10 (by kernel_rfl) ?_
  refine W_val (.string x6.Kind) w10 (by kernel_rfl) (E_load (e := 23) (fr := (0, 0)) _ _ false 1 b9 2 [.int .i64 x6.Tick, .int .i64 x6.Guest, .string x6.Kind, .int .i64 x6.Value] (.string x6.Kind) rfl (by kernel_rfl) (by kernel_rfl) (by kernel_rfl) (M11.blk 0 (b := b9) (o := .cells ⟨[.int .i64 x6.Tick, .int .i64 x6.Guest, .string x6.Kind, .int .i64 x6.Value]⟩ 23 (0, 0)) (by kernel_rfl))) ?_
  refine W_run 3 [(1, .int .i64 (w64 (x7 - (x6.Kind.size : Int))))] w10 (by kernel_rfl) ?_
  refine W_nil ?_
  refine N_then ?_
  refine G_seq ?_
  refine G_seq ?_
  refine G_region ?_
  refine W_run 2 [(1, .int .i64 (w64 (x7 - (x6.Kind.size : Int)))), (11, .bool (decide ((w64 (x7 - (x6.Kind.size : Int))) < 0)))] w10 (by kernel_rfl) ?_
  refine W_nil ?_
  refine N_then ?_
  rcases gx_bif hm with ⟨hc12, hm⟩ | ⟨hc12, hm⟩
  · refine G_cond_t (b := (decide ((w64 (x7 - (x6.Kind.size : Int))) < 0))) hc12 (by kernel_rfl) ?_
    refine G_seq ?_
    refine G_region ?_
    refine W_run 1 [(4, .int .i64 (-1))] w10 (by kernel_rfl) ?_
    refine W_nil ?_
    refine N_then ?_
    refine G_ret ?_
    refine N_then_ret ?_
    obtain rfl := Option.some.inj hm
    refine N_ret [.int .i64 (-1)] (RVs_cons (RV_tmp (by kernel_rfl)) RVs_nil) ?_
    exact ⟨rfl, M11.pick [] (by kernel_rfl)⟩
  refine G_cond_f (b := (decide ((w64 (x7 - (x6.Kind.size : Int))) < 0))) hc12 (by kernel_rfl) ?_
  refine G_skip ?_
  refine N_then ?_
  refine G_seq ?_
  refine G_region ?_
  refine W_run 2 [(4, .int .i64 (w64 (x7 - (x6.Kind.size : Int))))] w10 (by kernel_rfl) ?_
  refine W_nil ?_
  refine N_then ?_
  refine G_ret ?_
  obtain rfl := Option.some.inj hm
  refine N_ret [.int .i64 (w64 (x7 - (x6.Kind.size : Int)))] (RVs_cons (RV_tmp (by kernel_rfl)) RVs_nil) ?_
  exact ⟨rfl, M11.pick [] (by kernel_rfl)⟩
theorem c_l_toEvent (w : World) (x18 : Event) {r : Event} (hm : M.l_toEvent x18 = some r) :
    Calls Tryd.prog 6 #[.agg #[.int .i64 x18.Tick, .int .i64 x18.Guest, .string x18.Kind, .int .i64 x18.Value]] w fun e w' => e = .returned (.agg #[.int .i64 r.Tick, .int .i64 r.Guest, .string r.Kind, .int .i64 r.Value]) ∧ Mem [] w w' [] := by
  unfold M.l_toEvent at hm
  refine C_enter Tryd.func6 rfl (by kernel_rfl) ?_
  have M0 := Mem.refl [] w
  refine G_seq ?_
  refine G_region ?_
  refine W_new (fun b => .pointer (some ⟨b, 0, none⟩)) (.cells ⟨[.int .i64 x18.Tick, .int .i64 x18.Guest, .string x18.Kind, .int .i64 x18.Value]⟩ 23 (0, 0)) M0 rfl (by kernel_rfl) (by kernel_rfl) ?_
  intro b20 w21 M22
  refine W_new (fun b => .pointer (some ⟨b, 0, none⟩)) (.cells ⟨[.int .i64 0, .int .i64 0, .string ByteArray.empty, .int .i64 0]⟩ 27 (0, 0)) M22 rfl (by kernel_rfl) (by kernel_rfl) ?_
  intro b24 w25 M26
  refine W_nil ?_
  refine N_then ?_
  refine G_seq ?_
  refine G_region ?_
  refine W_new (fun b => .pointer (some ⟨b, 0, none⟩)) (.cells ⟨[.int .i64 0, .int .i64 0, .string ByteArray.empty, .int .i64 0]⟩ 27 (0, 0)) M26 rfl (by kernel_rfl) (by kernel_rfl) ?_
  intro b28 w29 M30
  refine W_nil ?_
  refine N_then ?_
  refine G_seq ?_
  refine G_region ?_
  refine W_run 1 [(1, .pointer (some ⟨b20, 0, none⟩)), (2, .pointer (some ⟨b24, 0, none⟩)), (3, .pointer (some ⟨b28, 0, none⟩)), (4, .pointer (some ⟨b20, 0, none⟩))] w29 (by kernel_rfl) ?_
  refine W_val (.int .i64 x18.Tick) w29 (by kernel_rfl) (E_load (e := 23) (fr := (0, 0)) _ _ false 1 b20 0 [.int .i64 x18.Tick, .int .i64 x18.Guest, .string x18.Kind, .int .i64 x18.Value] (.int .i64 x18.Tick) rfl (by kernel_rfl) (by kernel_rfl) (by kernel_rfl) (M30.blk 0 (b := b20) (o := .cells ⟨[.int .i64 x18.Tick, .int .i64 x18.Guest, .string x18.Kind, .int .i64 x18.Value]⟩ 23 (0, 0)) (by kernel_rfl))) ?_
  refine W_run 1 [(1, .pointer (some ⟨b20, 0, none⟩)), (2, .pointer (some ⟨b24, 0, none⟩)), (3, .pointer (some ⟨b28, 0, none⟩)), (5, .int .i64 x18.Tick), (6, .pointer (some ⟨b28, 0, none⟩))] w29 (by kernel_rfl) ?_
  refine W_store _ _ _ false 1 b28 0 [.int .i64 0, .int .i64 0, .string ByteArray.empty, .int .i64 0] 27 (.int .i64 x18.Tick) 2 [.int .i64 x18.Tick, .int .i64 0, .string ByteArray.empty, .int .i64 0] M30 (by kernel_rfl) rfl (by kernel_rfl) (by kernel_rfl) (by kernel_rfl) (by kernel_rfl) (by kernel_rfl) (by kernel_rfl) (by kernel_rfl) (by kernel_rfl) ?_
  intro w31 M32
  refine W_nil ?_
  refine N_then ?_
  refine G_seq ?_
  refine G_region ?_
  refine W_run 1 [(1, .pointer (some ⟨b20, 0, none⟩)), (2, .pointer (some ⟨b24, 0, none⟩)), (3, .pointer (some ⟨b28, 0, none⟩)), (7, .pointer (some ⟨b20, 1, none⟩))] w31 (by kernel_rfl) ?_
  refine W_val (.int .i64 x18.Guest) w31 (by kernel_rfl) (E_load (e := 23) (fr := (0, 0)) _ _ false 1 b20 1 [.int .i64 x18.Tick, .int .i64 x18.Guest, .string x18.Kind, .int .i64 x18.Value] (.int .i64 x18.Guest) rfl (by kernel_rfl) (by kernel_rfl) (by kernel_rfl) (M32.blk 0 (b := b20) (o := .cells ⟨[.int .i64 x18.Tick, .int .i64 x18.Guest, .string x18.Kind, .int .i64 x18.Value]⟩ 23 (0, 0)) (by kernel_rfl))) ?_
  refine W_run 1 [(1, .pointer (some ⟨b20, 0, none⟩)), (2, .pointer (some ⟨b24, 0, none⟩)), (3, .pointer (some ⟨b28, 0, none⟩)), (8, .int .i64 x18.Guest), (9, .pointer (some ⟨b28, 1, none⟩))] w31 (by kernel_rfl) ?_
  refine W_store _ _ _ false 1 b28 1 [.int .i64 x18.Tick, .int .i64 0, .string ByteArray.empty, .int .i64 0] 27 (.int .i64 x18.Guest) 2 [.int .i64 x18.Tick, .int .i64 x18.Guest, .string ByteArray.empty, .int .i64 0] M32 (by kernel_rfl) rfl (by kernel_rfl) (by kernel_rfl) (by kernel_rfl) (by kernel_rfl) (by kernel_rfl) (by kernel_rfl) (by kernel_rfl) (by kernel_rfl) ?_
  intro w33 M34
  refine W_nil ?_
  refine N_then ?_
  refine G_seq ?_
  refine G_region ?_
  refine W_run 1 [(1, .pointer (some ⟨b20, 0, none⟩)), (2, .pointer (some ⟨b24, 0, none⟩)), (3, .pointer (some ⟨b28, 0, none⟩)), (10, .pointer (some ⟨b20, 2, none⟩))] w33 (by kernel_rfl) ?_
  refine W_val (.string x18.Kind) w33 (by kernel_rfl) (E_load (e := 23) (fr := (0, 0)) _ _ false 1 b20 2 [.int .i64 x18.Tick, .int .i64 x18.Guest, .string x18.Kind, .int .i64 x18.Value] (.string x18.Kind) rfl (by kernel_rfl) (by kernel_rfl) (by kernel_rfl) (M34.blk 0 (b := b20) (o := .cells ⟨[.int .i64 x18.Tick, .int .i64 x18.Guest, .string x18.Kind, .int .i64 x18.Value]⟩ 23 (0, 0)) (by kernel_rfl))) ?_
  refine W_run 1 [(1, .pointer (some ⟨b20, 0, none⟩)), (2, .pointer (some ⟨b24, 0, none⟩)), (3, .pointer (some ⟨b28, 0, none⟩)), (11, .string x18.Kind), (12, .pointer (some ⟨b28, 2, none⟩))] w33 (by kernel_rfl) ?_
  refine W_store _ _ _ false 1 b28 2 [.int .i64 x18.Tick, .int .i64 x18.Guest, .string ByteArray.empty, .int .i64 0] 27 (.string x18.Kind) 2 [.int .i64 x18.Tick, .int .i64 x18.Guest, .string x18.Kind, .int .i64 0] M34 (by kernel_rfl) rfl (by kernel_rfl) (by kernel_rfl) (by kernel_rfl) (by kernel_rfl) (by kernel_rfl) (by kernel_rfl) (by kernel_rfl) (by kernel_rfl) ?_
  intro w35 M36
  refine W_nil ?_
  refine N_then ?_
  refine G_seq ?_
  refine G_region ?_
  refine W_run 1 [(2, .pointer (some ⟨b24, 0, none⟩)), (3, .pointer (some ⟨b28, 0, none⟩)), (13, .pointer (some ⟨b20, 3, none⟩))] w35 (by kernel_rfl) ?_
  refine W_val (.int .i64 x18.Value) w35 (by kernel_rfl) (E_load (e := 23) (fr := (0, 0)) _ _ false 1 b20 3 [.int .i64 x18.Tick, .int .i64 x18.Guest, .string x18.Kind, .int .i64 x18.Value] (.int .i64 x18.Value) rfl (by kernel_rfl) (by kernel_rfl) (by kernel_rfl) (M36.blk 0 (b := b20) (o := .cells ⟨[.int .i64 x18.Tick, .int .i64 x18.Guest, .string x18.Kind, .int .i64 x18.Value]⟩ 23 (0, 0)) (by kernel_rfl))) ?_
  refine W_run 1 [(2, .pointer (some ⟨b24, 0, none⟩)), (3, .pointer (some ⟨b28, 0, none⟩)), (14, .int .i64 x18.Value), (15, .pointer (some ⟨b28, 3, none⟩))] w35 (by kernel_rfl) ?_
  refine W_store _ _ _ false 1 b28 3 [.int .i64 x18.Tick, .int .i64 x18.Guest, .string x18.Kind, .int .i64 0] 27 (.int .i64 x18.Value) 2 [.int .i64 x18.Tick, .int .i64 x18.Guest, .string x18.Kind, .int .i64 x18.Value] M36 (by kernel_rfl) rfl (by kernel_rfl) (by kernel_rfl) (by kernel_rfl) (by kernel_rfl) (by kernel_rfl) (by kernel_rfl) (by kernel_rfl) (by kernel_rfl) ?_
  intro w37 M38
  refine W_nil ?_
  refine N_then ?_
  refine G_seq ?_
  refine G_region ?_
  refine W_val (.agg #[.int .i64 x18.Tick, .int .i64 x18.Guest, .string x18.Kind, .int .i64 x18.Value]) w37 (by kernel_rfl) (E_load (e := 27) (fr := (0, 0)) _ _ true 4 b28 0 [.int .i64 x18.Tick, .int .i64 x18.Guest, .string x18.Kind, .int .i64 x18.Value] (.agg #[.int .i64 x18.Tick, .int .i64 x18.Guest, .string x18.Kind, .int .i64 x18.Value]) rfl (by kernel_rfl) (by kernel_rfl) (by kernel_rfl) (M38.blk 2 (b := b28) (o := .cells ⟨[.int .i64 x18.Tick, .int .i64 x18.Guest, .string x18.Kind, .int .i64 x18.Value]⟩ 27 (0, 0)) (by kernel_rfl))) ?_
  refine W_store _ _ _ true 4 b24 0 [.int .i64 0, .int .i64 0, .string ByteArray.empty, .int .i64 0] 27 (.agg #[.int .i64 x18.Tick, .int .i64 x18.Guest, .string x18.Kind, .int .i64 x18.Value]) 1 [.int .i64 x18.Tick, .int .i64 x18.Guest, .string x18.Kind, .int .i64 x18.Value] M38 (by kernel_rfl) rfl (by kernel_rfl) (by kernel_rfl) (by kernel_rfl) (by kernel_rfl) (by kernel_rfl) (by kernel_rfl) (by kernel_rfl) (by kernel_rfl) ?_
  intro w39 M40
  refine W_nil ?_
  refine N_then ?_
  refine G_ret ?_
  obtain rfl := Option.some.inj hm
  refine N_ret [.agg #[.int .i64 x18.Tick, .int .i64 x18.Guest, .string x18.Kind, .int .i64 x18.Value]] (RVs_cons (RV_cell (g := true) (k := 4) (b := b24) (off := 0) (cs := [.int .i64 x18.Tick, .int .i64 x18.Guest, .string x18.Kind, .int .i64 x18.Value]) (e := 27) (fr := (0, 0)) (v := .agg #[.int .i64 x18.Tick, .int .i64 x18.Guest, .string x18.Kind, .int .i64 x18.Value]) (M40.blk 1 (b := b24) (o := .cells ⟨[.int .i64 x18.Tick, .int .i64 x18.Guest, .string x18.Kind, .int .i64 x18.Value]⟩ 27 (0, 0)) (by kernel_rfl)) (by kernel_rfl) (by kernel_rfl) (by kernel_rfl)) RVs_nil) ?_
  exact ⟨rfl, M40.pick [] (by kernel_rfl)⟩
theorem c_s_l1In (w : World) (x56 : Int) (x57 : Int) (x58 : Int) {r : Bool} (hm : M.s_l1In x56 x57 x58 = some r) :
    Calls Tryd.prog 15 #[.int .i64 x56, .int .i64 x57, .int .i64 x58] w fun e w' => e = .returned (.bool r) ∧ Mem [] w w' [] := by
  unfold M.s_l1In at hm
  refine C_enter Tryd.func15 rfl (by kernel_rfl) ?_
  have M0 := Mem.refl [] w
  refine G_seq ?_
  refine G_region ?_
  refine W_run 1 [(0, .int .i64 x56), (1, .int .i64 x57), (2, .int .i64 x58)] w (by kernel_rfl) ?_
  refine W_nil ?_
  refine N_then ?_
  refine G_seq ?_
  obtain ⟨o60, ho61, hm62⟩ := gx_bind hm
  refine G_meet (fun a w' => Mem [] w w' [] ∧ Sat Tryd.f15.ntmps [(6, .bool o60)] a) ?_ ?_
  · have hm := ho61
    refine G_region ?_
    refine W_run 4 [(0, .int .i64 x56), (2, .int .i64 x58), (10, .bool (decide (x56 ≥ x57)))] w (by kernel_rfl) ?_
    rcases gx_bif hm with ⟨hc63, hm⟩ | ⟨hc63, hm⟩
    · refine W_known 10 true (by kernel_rfl) hc63 ?_
      refine W_run 5 [(6, .bool (decide (x56 ≤ x58)))] w (by kernel_rfl) ?_
      refine W_nil ?_
      obtain rfl := Option.some.inj hm
      exact N_meet fun a ha => ⟨M0.pick [] (by kernel_rfl), ha.sub (by kernel_rfl)⟩
    refine W_known 10 false (by kernel_rfl) hc63 ?_
    refine W_run 5 [(6, .bool false)] w (by kernel_rfl) ?_
    refine W_nil ?_
    obtain rfl := Option.some.inj hm
    exact N_meet fun a ha => ⟨M0.pick [] (by kernel_rfl), ha.sub (by kernel_rfl)⟩
  intro a66 w64 ⟨M65, hS67⟩
  refine N_use hS67 ?_
  have hm := hm62
  refine N_then ?_
  refine G_ret ?_
  obtain rfl := Option.some.inj hm
  refine N_ret [.bool o60] (RVs_cons (RV_tmp (by kernel_rfl)) RVs_nil) ?_
  exact ⟨rfl, M65.pick [] (by kernel_rfl)⟩
theorem c_s_l11Tick (w : World) (x55 : Int) {r : Bool} (hm : M.s_l11Tick x55 = some r) :
    Calls Tryd.prog 12 #[.int .i64 x55] w fun e w' => e = .returned (.bool r) ∧ Mem [] w w' [] := by
  unfold M.s_l11Tick at hm
  refine C_enter Tryd.func12 rfl (by kernel_rfl) ?_
  have M0 := Mem.refl [] w
  refine G_seq ?_
  refine G_region ?_
  refine W_run 1 [(0, .int .i64 x55)] w (by kernel_rfl) ?_
  refine W_nil ?_
  refine N_then ?_
  refine G_seq ?_
  refine G_region ?_
  refine W_run 1 [(3, .int .i64 x55)] w (by kernel_rfl) ?_
  obtain ⟨r68, hr68, hm⟩ := gx_bind hm
  refine W_call 15 #[.int .i64 x55, .int .i64 0, .int .i64 100000] (by kernel_rfl) (by kernel_rfl) ?_
  refine (c_s_l1In w x55 0 100000 hr68).mono ?_
  rintro e_ w69 ⟨rfl, K70⟩
  have M71 := M0.call0 K70
  refine ⟨_, rfl, ?_⟩
  refine W_run 1 [(2, .bool r68)] w69 (by kernel_rfl) ?_
  refine W_nil ?_
  refine N_then ?_
  refine G_ret ?_
  obtain rfl := Option.some.inj hm
  refine N_ret [.bool r68] (RVs_cons (RV_tmp (by kernel_rfl)) RVs_nil) ?_
  exact ⟨rfl, M71.pick [] (by kernel_rfl)⟩
theorem c_s_l22Guest (w : World) (x77 : Int) {r : Bool} (hm : M.s_l22Guest x77 = some r) :
    Calls Tryd.prog 13 #[.int .i64 x77] w fun e w' => e = .returned (.bool r) ∧ Mem [] w w' [] := by
  unfold M.s_l22Guest at hm
  refine C_enter Tryd.func13 rfl (by kernel_rfl) ?_
  have M0 := Mem.refl [] w
  refine G_seq ?_
  refine G_region ?_
  refine W_run 1 [(0, .int .i64 x77)] w (by kernel_rfl) ?_
  refine W_nil ?_
  refine N_then ?_
  refine G_seq ?_
  refine G_region ?_
  refine W_run 1 [(3, .int .i64 x77)] w (by kernel_rfl) ?_
  obtain ⟨r78, hr78, hm⟩ := gx_bind hm
  refine W_call 15 #[.int .i64 x77, .int .i64 0, .int .i64 4] (by kernel_rfl) (by kernel_rfl) ?_
  refine (c_s_l1In w x77 0 4 hr78).mono ?_
  rintro e_ w79 ⟨rfl, K80⟩
  have M81 := M0.call0 K80
  refine ⟨_, rfl, ?_⟩
  refine W_run 1 [(2, .bool r78)] w79 (by kernel_rfl) ?_
  refine W_nil ?_
  refine N_then ?_
  refine G_ret ?_
  obtain rfl := Option.some.inj hm
  refine N_ret [.bool r78] (RVs_cons (RV_tmp (by kernel_rfl)) RVs_nil) ?_
  exact ⟨rfl, M81.pick [] (by kernel_rfl)⟩
theorem c_s_l22Kind (w : World) (x87 : ByteArray) {r : Bool} (hm : M.s_l22Kind x87 = some r) :
    Calls Tryd.prog 14 #[.string x87] w fun e w' => e = .returned (.bool r) ∧ Mem [] w w' [] := by
  unfold M.s_l22Kind at hm
  refine C_enter Tryd.func14 rfl (by kernel_rfl) ?_
  have M0 := Mem.refl [] w
  refine G_seq ?_
  refine G_region ?_
  refine W_run 1 [(0, .string x87)] w (by kernel_rfl) ?_
  refine W_nil ?_
  refine N_then ?_
  refine G_seq ?_
  refine G_seq ?_
  refine G_region ?_
  refine W_run 1 [(0, .string x87), (3, .int .i64 0)] w (by kernel_rfl) ?_
  refine W_nil ?_
  refine N_then ?_
  obtain ⟨out125, hw126, hmo127⟩ := gx_bind hm
  refine G_meet (fun a w' => ∃ (o128 : Unit), out125 = .inl o128 ∧ Mem [] w w' [] ∧ Sat Tryd.f14.ntmps [(0, .string x87)] a) ?_ ?_
  · refine G_block ?_
    refine G_while (σ := Int) (ρ := (Unit) ⊕ (Bool)) (fun s118 a w' => Mem [] w w' [] ∧ Sat Tryd.f14.ntmps [(0, .string x87), (3, .int .i64 s118)] a) hw126 (fun a ha => ⟨M0.pick [] (by kernel_rfl), ha.sub (by kernel_rfl)⟩) ?_
    clear hm
    intro s118 x119 hm hout120 a121 w122 ⟨M123, hS124⟩
    refine G_use hS124 ?_
    refine G_seq ?_
    refine G_seq ?_
    refine G_region ?_
    refine W_run 4 [(0, .string x87), (3, .int .i64 s118), (7, .bool (decide (s118 < (x87.size : Int))))] w122 (by kernel_rfl) ?_
    refine W_nil ?_
    refine N_then ?_
    rcases gx_bif hm with ⟨hc129, hm⟩ | ⟨hc129, hm⟩
    · refine G_cond_t (b := (decide (s118 < (x87.size : Int)))) hc129 (by kernel_rfl) ?_
      refine G_skip ?_
      refine N_then ?_
      refine G_seq ?_
      refine G_block ?_
      refine G_seq ?_
      obtain ⟨o133, ho134, hm135⟩ := gx_bind hm
      refine G_meet (fun a w' => Mem [] w w' [] ∧ Sat Tryd.f14.ntmps [(0, .string x87), (3, .int .i64 s118), (19, .bool o133)] a) ?_ ?_
      · have hm := ho134
        refine G_region ?_
        refine W_run 2 [(0, .string x87), (3, .int .i64 s118), (10, .string x87), (11, .int .i64 s118)] w122 (by kernel_rfl) ?_
        obtain ⟨q136, hq136, hm⟩ := gx_bind hm
        refine W_val (.int .u8 q136) w122 (by kernel_rfl) (E_strIdx _ _ _ x87 .i64 s118 q136 rfl (by kernel_rfl) (by kernel_rfl) (by kernel_rfl) hq136) ?_
        refine W_run 2 [(0, .string x87), (3, .int .i64 s118), (14, .bool (decide (q136 < 97)))] w122 (by kernel_rfl) ?_
        rcases gx_bif hm with ⟨hc137, hm⟩ | ⟨hc137, hm⟩
        · refine W_known 14 true (by kernel_rfl) hc137 ?_
          refine W_run 5 [(0, .string x87), (3, .int .i64 s118), (19, .bool true)] w122 (by kernel_rfl) ?_
          refine W_nil ?_
          obtain rfl := Option.some.inj hm
          exact N_meet fun a ha => ⟨M123.pick [] (by kernel_rfl), ha.sub (by kernel_rfl)⟩
        refine W_known 14 false (by kernel_rfl) hc137 ?_
        refine W_run 2 [(0, .string x87), (3, .int .i64 s118), (14, .bool false), (15, .string x87), (16, .int .i64 s118)] w122 (by kernel_rfl) ?_
        obtain ⟨q138, hq138, hm⟩ := gx_bind hm
        refine W_val (.int .u8 q138) w122 (by kernel_rfl) (E_strIdx _ _ _ x87 .i64 s118 q138 rfl (by kernel_rfl) (by kernel_rfl) (by kernel_rfl) hq138) ?_
        refine W_run 2 [(0, .string x87), (3, .int .i64 s118), (19, .bool (decide (q138 > 122)))] w122 (by kernel_rfl) ?_
        refine W_nil ?_
        obtain rfl := Option.some.inj hm
        exact N_meet fun a ha => ⟨M123.pick [] (by kernel_rfl), ha.sub (by kernel_rfl)⟩
      intro a141 w139 ⟨M140, hS142⟩
      refine N_use hS142 ?_
      have hm := hm135
      refine N_then ?_
      rcases gx_bif hm with ⟨hc143, hm⟩ | ⟨hc143, hm⟩
      · refine G_cond_t (b := o133) hc143 (by kernel_rfl) ?_
        refine G_seq ?_
        refine G_region ?_
        refine W_run 1 [(2, .bool false)] w139 (by kernel_rfl) ?_
        refine W_nil ?_
        refine N_then ?_
        refine G_ret ?_
        refine N_block_ret ?_
        refine N_then_ret ?_
        refine N_then_ret ?_
        obtain rfl := Option.some.inj hm
        obtain rfl := hout120 _ rfl
        have hm := hmo127; simp only [Sum.elim_inr] at hm
        refine N_block_ret ?_
        refine N_meet_ret ?_
        refine N_then_ret ?_
        obtain rfl := Option.some.inj hm
        refine N_ret [.bool false] (RVs_cons (RV_tmp (by kernel_rfl)) RVs_nil) ?_
        exact ⟨rfl, M140.pick [] (by kernel_rfl)⟩
      refine G_cond_f (b := o133) hc143 (by kernel_rfl) ?_
      refine G_skip ?_
      refine N_block ?_
      refine N_then ?_
      refine G_region ?_
      refine W_run 3 [(0, .string x87), (3, .int .i64 (w64 (s118 + 1)))] w139 (by kernel_rfl) ?_
      refine W_nil ?_
      obtain rfl := Option.some.inj hm
      exact N_loop fun a ha => ⟨_, rfl, M140.pick [] (by kernel_rfl), ha.sub (by kernel_rfl)⟩
    refine G_cond_f (b := (decide (s118 < (x87.size : Int)))) hc129 (by kernel_rfl) ?_
    refine G_exit ?_
    refine N_then_exit ?_
    refine N_then_exit ?_
    refine N_block_eq ?_
    obtain rfl := Option.some.inj hm
    obtain rfl := hout120 _ rfl
    exact N_meet fun a ha => ⟨_, rfl, M123.pick [] (by kernel_rfl), ha.sub (by kernel_rfl)⟩
  intro a144 w145 ⟨o128, hout_, M146, hS147⟩
  refine N_use hS147 ?_
  subst hout_
  have hm := hmo127; simp only [Sum.elim_inl] at hm
  refine N_then ?_
  refine G_seq ?_
  refine G_region ?_
  refine W_run 2 [(21, .int .i64 (x87.size : Int))] w145 (by kernel_rfl) ?_
  obtain ⟨r148, hr148, hm⟩ := gx_bind hm
  refine W_call 15 #[.int .i64 (x87.size : Int), .int .i64 1, .int .i64 8] (by kernel_rfl) (by kernel_rfl) ?_
  refine (c_s_l1In w145 (x87.size : Int) 1 8 hr148).mono ?_
  rintro e_ w149 ⟨rfl, K150⟩
  have M151 := M146.call0 K150
  refine ⟨_, rfl, ?_⟩
  refine W_run 1 [(2, .bool r148)] w149 (by kernel_rfl) ?_
  refine W_nil ?_
  refine N_then ?_
  refine G_ret ?_
  obtain rfl := Option.some.inj hm
  refine N_ret [.bool r148] (RVs_cons (RV_tmp (by kernel_rfl)) RVs_nil) ?_
  exact ⟨rfl, M151.pick [] (by kernel_rfl)⟩
theorem c_s_l22One (w : World) (x50 : Event) {r : Bool} (hm : M.s_l22One x50 = some r) :
    Calls Tryd.prog 8 #[.agg #[.int .i64 x50.Tick, .int .i64 x50.Guest, .string x50.Kind, .int .i64 x50.Value]] w fun e w' => e = .returned (.bool r) ∧ Mem [] w w' [] := by
  unfold M.s_l22One at hm
  refine C_enter Tryd.func8 rfl (by kernel_rfl) ?_
  have M0 := Mem.refl [] w
  refine G_seq ?_
  refine G_region ?_
  refine W_new (fun b => .pointer (some ⟨b, 0, none⟩)) (.cells ⟨[.int .i64 x50.Tick, .int .i64 x50.Guest, .string x50.Kind, .int .i64 x50.Value]⟩ 27 (0, 0)) M0 rfl (by kernel_rfl) (by kernel_rfl) ?_
  intro b52 w53 M54
  refine W_run 1 [(1, .pointer (some ⟨b52, 0, none⟩))] w53 (by kernel_rfl) ?_
  refine W_nil ?_
  refine N_then ?_
  refine G_seq ?_
  obtain ⟨o161, ho162, hm163⟩ := gx_bind hm
  refine G_meet (fun a w' => Mem [] w w' [] ∧ Sat Tryd.f8.ntmps [(2, .bool o161)] a) ?_ ?_
  · have hm := ho162
    refine G_region ?_
    refine W_run 1 [(1, .pointer (some ⟨b52, 0, none⟩)), (3, .pointer (some ⟨b52, 0, none⟩))] w53 (by kernel_rfl) ?_
    refine W_val (.int .i64 x50.Tick) w53 (by kernel_rfl) (E_load (e := 27) (fr := (0, 0)) _ _ false 1 b52 0 [.int .i64 x50.Tick, .int .i64 x50.Guest, .string x50.Kind, .int .i64 x50.Value] (.int .i64 x50.Tick) rfl (by kernel_rfl) (by kernel_rfl) (by kernel_rfl) (M54.blk 0 (b := b52) (o := .cells ⟨[.int .i64 x50.Tick, .int .i64 x50.Guest, .string x50.Kind, .int .i64 x50.Value]⟩ 27 (0, 0)) (by kernel_rfl))) ?_
    obtain ⟨r164, hr164, hm⟩ := gx_bind hm
    refine W_call 12 #[.int .i64 x50.Tick] (by kernel_rfl) (by kernel_rfl) ?_
    refine (c_s_l11Tick w53 x50.Tick hr164).mono ?_
    rintro e_ w165 ⟨rfl, K166⟩
    have M167 := M54.call0 K166
    refine ⟨_, rfl, ?_⟩
    refine W_run 1 [(1, .pointer (some ⟨b52, 0, none⟩)), (6, .bool r164)] w165 (by kernel_rfl) ?_
    rcases gx_bif hm with ⟨hc168, hm⟩ | ⟨hc168, hm⟩
    · refine W_known 6 true (by kernel_rfl) hc168 ?_
      refine W_run 1 [(1, .pointer (some ⟨b52, 0, none⟩)), (6, .bool true), (7, .pointer (some ⟨b52, 1, none⟩))] w165 (by kernel_rfl) ?_
      refine W_val (.int .i64 x50.Guest) w165 (by kernel_rfl) (E_load (e := 27) (fr := (0, 0)) _ _ false 1 b52 1 [.int .i64 x50.Tick, .int .i64 x50.Guest, .string x50.Kind, .int .i64 x50.Value] (.int .i64 x50.Guest) rfl (by kernel_rfl) (by kernel_rfl) (by kernel_rfl) (M167.blk 0 (b := b52) (o := .cells ⟨[.int .i64 x50.Tick, .int .i64 x50.Guest, .string x50.Kind, .int .i64 x50.Value]⟩ 27 (0, 0)) (by kernel_rfl))) ?_
      obtain ⟨r169, hr169, hm⟩ := gx_bind hm
      refine W_call 13 #[.int .i64 x50.Guest] (by kernel_rfl) (by kernel_rfl) ?_
      refine (c_s_l22Guest w165 x50.Guest hr169).mono ?_
      rintro e_ w170 ⟨rfl, K171⟩
      have M172 := M167.call0 K171
      refine ⟨_, rfl, ?_⟩
      refine W_run 2 [(1, .pointer (some ⟨b52, 0, none⟩)), (11, .bool r169)] w170 (by kernel_rfl) ?_
      rcases gx_bif hm with ⟨hc173, hm⟩ | ⟨hc173, hm⟩
      · refine W_known 11 true (by kernel_rfl) hc173 ?_
        refine W_run 1 [(1, .pointer (some ⟨b52, 0, none⟩)), (11, .bool true), (12, .pointer (some ⟨b52, 2, none⟩))] w170 (by kernel_rfl) ?_
        refine W_val (.string x50.Kind) w170 (by kernel_rfl) (E_load (e := 27) (fr := (0, 0)) _ _ false 1 b52 2 [.int .i64 x50.Tick, .int .i64 x50.Guest, .string x50.Kind, .int .i64 x50.Value] (.string x50.Kind) rfl (by kernel_rfl) (by kernel_rfl) (by kernel_rfl) (M172.blk 0 (b := b52) (o := .cells ⟨[.int .i64 x50.Tick, .int .i64 x50.Guest, .string x50.Kind, .int .i64 x50.Value]⟩ 27 (0, 0)) (by kernel_rfl))) ?_
        obtain ⟨r174, hr174, hm⟩ := gx_bind hm
        refine W_call 14 #[.string x50.Kind] (by kernel_rfl) (by kernel_rfl) ?_
        refine (c_s_l22Kind w170 x50.Kind hr174).mono ?_
        rintro e_ w175 ⟨rfl, K176⟩
        have M177 := M172.call0 K176
        refine ⟨_, rfl, ?_⟩
        refine W_run 2 [(1, .pointer (some ⟨b52, 0, none⟩)), (16, .bool r174)] w175 (by kernel_rfl) ?_
        rcases gx_bif hm with ⟨hc178, hm⟩ | ⟨hc178, hm⟩
        · refine W_known 16 true (by kernel_rfl) hc178 ?_
          refine W_run 1 [(16, .bool true), (17, .pointer (some ⟨b52, 3, none⟩))] w175 (by kernel_rfl) ?_
          refine W_val (.int .i64 x50.Value) w175 (by kernel_rfl) (E_load (e := 27) (fr := (0, 0)) _ _ false 1 b52 3 [.int .i64 x50.Tick, .int .i64 x50.Guest, .string x50.Kind, .int .i64 x50.Value] (.int .i64 x50.Value) rfl (by kernel_rfl) (by kernel_rfl) (by kernel_rfl) (M177.blk 0 (b := b52) (o := .cells ⟨[.int .i64 x50.Tick, .int .i64 x50.Guest, .string x50.Kind, .int .i64 x50.Value]⟩ 27 (0, 0)) (by kernel_rfl))) ?_
          obtain ⟨r179, hr179, hm⟩ := gx_bind hm
          refine W_call 15 #[.int .i64 x50.Value, .int .i64 0, .int .i64 65535] (by kernel_rfl) (by kernel_rfl) ?_
          refine (c_s_l1In w175 x50.Value 0 65535 hr179).mono ?_
          rintro e_ w180 ⟨rfl, K181⟩
          have M182 := M177.call0 K181
          refine ⟨_, rfl, ?_⟩
          refine W_run 2 [(2, .bool r179)] w180 (by kernel_rfl) ?_
          refine W_nil ?_
          obtain rfl := Option.some.inj hm
          exact N_meet fun a ha => ⟨M182.pick [] (by kernel_rfl), ha.sub (by kernel_rfl)⟩
        refine W_known 16 false (by kernel_rfl) hc178 ?_
        refine W_run 5 [(2, .bool false)] w175 (by kernel_rfl) ?_
        refine W_nil ?_
        obtain rfl := Option.some.inj hm
        exact N_meet fun a ha => ⟨M177.pick [] (by kernel_rfl), ha.sub (by kernel_rfl)⟩
      refine W_known 11 false (by kernel_rfl) hc173 ?_
      refine W_run 10 [(2, .bool false)] w170 (by kernel_rfl) ?_
      refine W_nil ?_
      obtain rfl := Option.some.inj hm
      exact N_meet fun a ha => ⟨M172.pick [] (by kernel_rfl), ha.sub (by kernel_rfl)⟩
    refine W_known 6 false (by kernel_rfl) hc168 ?_
    refine W_run 15 [(2, .bool false)] w165 (by kernel_rfl) ?_
    refine W_nil ?_
    obtain rfl := Option.some.inj hm
    exact N_meet fun a ha => ⟨M167.pick [] (by kernel_rfl), ha.sub (by kernel_rfl)⟩
  intro a185 w183 ⟨M184, hS186⟩
  refine N_use hS186 ?_
  have hm := hm163
  refine N_then ?_
  refine G_ret ?_
  obtain rfl := Option.some.inj hm
  refine N_ret [.bool o161] (RVs_cons (RV_tmp (by kernel_rfl)) RVs_nil) ?_
  exact ⟨rfl, M184.pick [] (by kernel_rfl)⟩
theorem c_s_l1Num (fuel_ : Nat) : ∀ (w : World) (x197 : Int) {r : ByteArray} (hm : M.s_l1Num fuel_ x197 = some r),
    Calls Tryd.prog 16 #[.int .i64 x197] w fun e w' => e = .returned (.string r) ∧ Mem [] w w' [] := by
  induction fuel_ with
  | zero =>
    intro w x197 r hm
    unfold M.s_l1Num at hm
    cases hm
  | succ n_ ih_ =>
    intro w x197 r hm
    unfold M.s_l1Num at hm
    refine C_enter Tryd.func16 rfl (by kernel_rfl) ?_
    have M0 := Mem.refl [] w
    refine G_seq ?_
    refine G_region ?_
    refine W_run 1 [(0, .int .i64 x197)] w (by kernel_rfl) ?_
    refine W_nil ?_
    refine N_then ?_
    refine G_seq ?_
    refine G_seq ?_
    refine G_region ?_
    refine W_run 2 [(0, .int .i64 x197), (4, .bool (decide (x197 < 0)))] w (by kernel_rfl) ?_
    refine W_nil ?_
    refine N_then ?_
    rcases gx_bif hm with ⟨hc198, hm⟩ | ⟨hc198, hm⟩
    · refine G_cond_t (b := (decide (x197 < 0))) hc198 (by kernel_rfl) ?_
      refine G_seq ?_
      refine G_region ?_
      refine W_run 2 [(6, .int .i64 (w64 (0 - x197)))] w (by kernel_rfl) ?_
      obtain ⟨r199, hr199, hm⟩ := gx_bind hm
      refine W_call 16 #[.int .i64 (w64 (0 - x197))] (by kernel_rfl) (by kernel_rfl) ?_
      refine (ih_ w (w64 (0 - x197)) hr199).mono ?_
      rintro e_ w200 ⟨rfl, K201⟩
      have M202 := M0.call0 K201
      refine ⟨_, rfl, ?_⟩
      obtain ⟨q203, hq203, hm⟩ := gx_bind hm
      refine W_val (.string q203) w200 (by kernel_rfl) (E_strCat _ _ _ _ (ByteArray.mk #[45]) r199 q203 rfl (by kernel_rfl) (by kernel_rfl) hq203) ?_
      refine W_run 1 [(2, .string q203)] w200 (by kernel_rfl) ?_
      refine W_nil ?_
      refine N_then ?_
      refine G_ret ?_
      refine N_then_ret ?_
      obtain rfl := Option.some.inj hm
      refine N_ret [.string q203] (RVs_cons (RV_tmp (by kernel_rfl)) RVs_nil) ?_
      exact ⟨rfl, M202.pick [] (by kernel_rfl)⟩
    refine G_cond_f (b := (decide (x197 < 0))) hc198 (by kernel_rfl) ?_
    refine G_skip ?_
    refine N_then ?_
    refine G_seq ?_
    refine G_seq ?_
    refine G_region ?_
    refine W_run 2 [(0, .int .i64 x197), (10, .bool (decide (x197 < 10)))] w (by kernel_rfl) ?_
    refine W_nil ?_
    refine N_then ?_
    rcases gx_bif hm with ⟨hc204, hm⟩ | ⟨hc204, hm⟩
    · refine G_cond_t (b := (decide (x197 < 10))) hc204 (by kernel_rfl) ?_
      refine G_seq ?_
      refine G_region ?_
      refine W_run 3 [(11, .int .i64 x197), (13, .int .i64 (w64 (x197 + 1)))] w (by kernel_rfl) ?_
      obtain ⟨q205, hq205, hm⟩ := gx_bind hm
      refine W_val (.string q205) w (by kernel_rfl) (E_strSub _ _ _ _ (ByteArray.mk #[48, 49, 50, 51, 52, 53, 54, 55, 56, 57]) x197 (w64 (x197 + 1)) q205 rfl (by kernel_rfl) (Or.inr ⟨_, rfl, by kernel_rfl⟩) (Or.inr ⟨_, rfl, by kernel_rfl⟩) (by kernel_rfl) hq205) ?_
      refine W_run 1 [(2, .string q205)] w (by kernel_rfl) ?_
      refine W_nil ?_
      refine N_then ?_
      refine G_ret ?_
      refine N_then_ret ?_
      obtain rfl := Option.some.inj hm
      refine N_ret [.string q205] (RVs_cons (RV_tmp (by kernel_rfl)) RVs_nil) ?_
      exact ⟨rfl, M0.pick [] (by kernel_rfl)⟩
    refine G_cond_f (b := (decide (x197 < 10))) hc204 (by kernel_rfl) ?_
    refine G_skip ?_
    refine N_then ?_
    refine G_seq ?_
    refine G_quiet (by kernel_rfl) (by kernel_rfl) M0 ?_
    refine Z_runs [.int .i64 x197, .int .i64 (w64 (x197.tdiv 10))] [(0, .int .i64 x197), (16, .int .i64 (w64 (x197.tdiv 10)))] (fun w_ => by kernel_rfl) (by kernel_rfl) ?_
    obtain ⟨r206, hr206, hm⟩ := gx_bind hm
    refine Z_call 16 #[.int .i64 (w64 (x197.tdiv 10))] (.string r206) (by kernel_rfl) (fun w_ => by kernel_rfl) (fun w_ M_ => (ih_ w_ (w64 (x197.tdiv 10)) hr206).mono fun e w2_ h_ => ⟨h_.1, M_.call0 h_.2⟩) ?_
    refine Z_runs [.int .i64 x197, .int .i64 (x197.tmod 10), .int .i64 x197, .int .i64 (x197.tmod 10), .int .i64 (w64 ((x197.tmod 10) + 1))] [(17, .string r206), (19, .int .i64 (x197.tmod 10)), (22, .int .i64 (w64 ((x197.tmod 10) + 1)))] (fun w_ => by kernel_rfl) (by kernel_rfl) ?_
    obtain ⟨q210, hq210, hm⟩ := gx_bind hm
    refine Z_val (.string q210) (by kernel_rfl) (fun w_ M_ => (E_strSub _ _ _ _ (ByteArray.mk #[48, 49, 50, 51, 52, 53, 54, 55, 56, 57]) (x197.tmod 10) (w64 ((x197.tmod 10) + 1)) q210 rfl (by kernel_rfl) (Or.inr ⟨_, rfl, by kernel_rfl⟩) (Or.inr ⟨_, rfl, by kernel_rfl⟩) (by kernel_rfl) hq210)) ?_
    obtain ⟨q211, hq211, hm⟩ := gx_bind hm
    refine Z_val (.string q211) (by kernel_rfl) (fun w_ M_ => (E_strCat _ _ _ _ r206 q210 q211 rfl (by kernel_rfl) (by kernel_rfl) hq211)) ?_
    refine Z_runs [.string q211] [(2, .string q211)] (fun w_ => by kernel_rfl) (by kernel_rfl) ?_
    refine Z_end fun w212 M213 => ?_
    refine N_then ?_
    refine G_ret ?_
    obtain rfl := Option.some.inj hm
    refine N_ret [.string q211] (RVs_cons (RV_tmp (by kernel_rfl)) RVs_nil) ?_
    exact ⟨rfl, M213.pick [] (by kernel_rfl)⟩
theorem c_s_l22Text (w : World) (x192 : Event) {r : ByteArray} (hm : M.s_l22Text x192 = some r) :
    Calls Tryd.prog 9 #[.agg #[.int .i64 x192.Tick, .int .i64 x192.Guest, .string x192.Kind, .int .i64 x192.Value]] w fun e w' => e = .returned (.string r) ∧ Mem [] w w' [] := by
  unfold M.s_l22Text at hm
  refine C_enter Tryd.func9 rfl (by kernel_rfl) ?_
  have M0 := Mem.refl [] w
  refine G_seq ?_
  refine G_region ?_
  refine W_new (fun b => .pointer (some ⟨b, 0, none⟩)) (.cells ⟨[.int .i64 x192.Tick, .int .i64 x192.Guest, .string x192.Kind, .int .i64 x192.Value]⟩ 27 (0, 0)) M0 rfl (by kernel_rfl) (by kernel_rfl) ?_
  intro b194 w195 M196
  refine W_run 1 [(1, .pointer (some ⟨b194, 0, none⟩))] w195 (by kernel_rfl) ?_
  refine W_nil ?_
  refine N_then ?_
  refine G_seq ?_
  refine G_region ?_
  refine W_run 1 [(1, .pointer (some ⟨b194, 0, none⟩)), (4, .pointer (some ⟨b194, 0, none⟩))] w195 (by kernel_rfl) ?_
  refine W_val (.int .i64 x192.Tick) w195 (by kernel_rfl) (E_load (e := 27) (fr := (0, 0)) _ _ false 1 b194 0 [.int .i64 x192.Tick, .int .i64 x192.Guest, .string x192.Kind, .int .i64 x192.Value] (.int .i64 x192.Tick) rfl (by kernel_rfl) (by kernel_rfl) (by kernel_rfl) (M196.blk 0 (b := b194) (o := .cells ⟨[.int .i64 x192.Tick, .int .i64 x192.Guest, .string x192.Kind, .int .i64 x192.Value]⟩ 27 (0, 0)) (by kernel_rfl))) ?_
  obtain ⟨r214, hr214, hm⟩ := gx_bind hm
  refine W_call 16 #[.int .i64 x192.Tick] (by kernel_rfl) (by kernel_rfl) ?_
  refine (c_s_l1Num gxFuel w195 x192.Tick hr214).mono ?_
  rintro e_ w215 ⟨rfl, K216⟩
  have M217 := M196.call0 K216
  refine ⟨_, rfl, ?_⟩
  obtain ⟨q218, hq218, hm⟩ := gx_bind hm
  refine W_val (.string q218) w215 (by kernel_rfl) (E_strCat _ _ _ _ r214 (ByteArray.mk #[32, 109, 97, 99, 104, 105, 110, 101, 32]) q218 rfl (by kernel_rfl) (by kernel_rfl) hq218) ?_
  refine W_run 1 [(1, .pointer (some ⟨b194, 0, none⟩)), (3, .string q218)] w215 (by kernel_rfl) ?_
  refine W_nil ?_
  refine N_then ?_
  refine G_seq ?_
  refine G_seq ?_
  refine G_region ?_
  refine W_run 1 [(1, .pointer (some ⟨b194, 0, none⟩)), (3, .string q218), (8, .pointer (some ⟨b194, 1, none⟩))] w215 (by kernel_rfl) ?_
  refine W_val (.int .i64 x192.Guest) w215 (by kernel_rfl) (E_load (e := 27) (fr := (0, 0)) _ _ false 1 b194 1 [.int .i64 x192.Tick, .int .i64 x192.Guest, .string x192.Kind, .int .i64 x192.Value] (.int .i64 x192.Guest) rfl (by kernel_rfl) (by kernel_rfl) (by kernel_rfl) (M217.blk 0 (b := b194) (o := .cells ⟨[.int .i64 x192.Tick, .int .i64 x192.Guest, .string x192.Kind, .int .i64 x192.Value]⟩ 27 (0, 0)) (by kernel_rfl))) ?_
  refine W_run 1 [(1, .pointer (some ⟨b194, 0, none⟩)), (3, .string q218), (10, .bool (decide (x192.Guest > 0)))] w215 (by kernel_rfl) ?_
  refine W_nil ?_
  refine N_then ?_
  obtain ⟨o233, ho234, hm235⟩ := gx_bind hm
  refine G_meet (fun a w' => Mem [] w w' [[(b194, .cells ⟨[.int .i64 x192.Tick, .int .i64 x192.Guest, .string x192.Kind, .int .i64 x192.Value]⟩ 27 (0, 0))]] ∧ Sat Tryd.f9.ntmps [(1, .pointer (some ⟨b194, 0, none⟩)), (3, .string o233)] a) ?_ ?_
  · have hm := ho234
    rcases gx_bif hm with ⟨hc236, hm⟩ | ⟨hc236, hm⟩
    · refine G_cond_t (b := (decide (x192.Guest > 0))) hc236 (by kernel_rfl) ?_
      refine G_quiet (by kernel_rfl) (by kernel_rfl) M217 ?_
      refine Z_runs [.pointer (some ⟨b194, 0, none⟩)] [(1, .pointer (some ⟨b194, 0, none⟩)), (3, .string q218), (11, .pointer (some ⟨b194, 0, none⟩))] (fun w_ => by kernel_rfl) (by kernel_rfl) ?_
      refine Z_val (.int .i64 x192.Tick) (by kernel_rfl) (fun w_ M_ => (E_load (e := 27) (fr := (0, 0)) _ _ false 1 b194 0 [.int .i64 x192.Tick, .int .i64 x192.Guest, .string x192.Kind, .int .i64 x192.Value] (.int .i64 x192.Tick) rfl (by kernel_rfl) (by kernel_rfl) (by kernel_rfl) (M_.blk 0 (b := b194) (o := .cells ⟨[.int .i64 x192.Tick, .int .i64 x192.Guest, .string x192.Kind, .int .i64 x192.Value]⟩ 27 (0, 0)) (by kernel_rfl)))) ?_
      obtain ⟨r237, hr237, hm⟩ := gx_bind hm
      refine Z_call 16 #[.int .i64 x192.Tick] (.string r237) (by kernel_rfl) (fun w_ => by kernel_rfl) (fun w_ M_ => (c_s_l1Num gxFuel w_ x192.Tick hr237).mono fun e w2_ h_ => ⟨h_.1, M_.call0 h_.2⟩) ?_
      obtain ⟨q241, hq241, hm⟩ := gx_bind hm
      refine Z_val (.string q241) (by kernel_rfl) (fun w_ M_ => (E_strCat _ _ _ _ r237 (ByteArray.mk #[32, 103, 117, 101, 115, 116, 32]) q241 rfl (by kernel_rfl) (by kernel_rfl) hq241)) ?_
      refine Z_runs [.pointer (some ⟨b194, 1, none⟩)] [(1, .pointer (some ⟨b194, 0, none⟩)), (3, .string q218), (14, .string q241), (15, .pointer (some ⟨b194, 1, none⟩))] (fun w_ => by kernel_rfl) (by kernel_rfl) ?_
      refine Z_val (.int .i64 x192.Guest) (by kernel_rfl) (fun w_ M_ => (E_load (e := 27) (fr := (0, 0)) _ _ false 1 b194 1 [.int .i64 x192.Tick, .int .i64 x192.Guest, .string x192.Kind, .int .i64 x192.Value] (.int .i64 x192.Guest) rfl (by kernel_rfl) (by kernel_rfl) (by kernel_rfl) (M_.blk 0 (b := b194) (o := .cells ⟨[.int .i64 x192.Tick, .int .i64 x192.Guest, .string x192.Kind, .int .i64 x192.Value]⟩ 27 (0, 0)) (by kernel_rfl)))) ?_
      obtain ⟨r242, hr242, hm⟩ := gx_bind hm
      refine Z_call 16 #[.int .i64 x192.Guest] (.string r242) (by kernel_rfl) (fun w_ => by kernel_rfl) (fun w_ M_ => (c_s_l1Num gxFuel w_ x192.Guest hr242).mono fun e w2_ h_ => ⟨h_.1, M_.call0 h_.2⟩) ?_
      obtain ⟨q246, hq246, hm⟩ := gx_bind hm
      refine Z_val (.string q246) (by kernel_rfl) (fun w_ M_ => (E_strCat _ _ _ _ q241 r242 q246 rfl (by kernel_rfl) (by kernel_rfl) hq246)) ?_
      obtain ⟨q247, hq247, hm⟩ := gx_bind hm
      refine Z_val (.string q247) (by kernel_rfl) (fun w_ M_ => (E_strCat _ _ _ _ q246 (ByteArray.mk #[32]) q247 rfl (by kernel_rfl) (by kernel_rfl) hq247)) ?_
      refine Z_runs [.string q247] [(1, .pointer (some ⟨b194, 0, none⟩)), (3, .string q247)] (fun w_ => by kernel_rfl) (by kernel_rfl) ?_
      refine Z_end fun w248 M249 => ?_
      obtain rfl := Option.some.inj hm
      exact N_meet fun a ha => ⟨M249.pick [0] (by kernel_rfl), ha.sub (by kernel_rfl)⟩
    refine G_cond_f (b := (decide (x192.Guest > 0))) hc236 (by kernel_rfl) ?_
    refine G_skip ?_
    obtain rfl := Option.some.inj hm
    exact N_meet fun a ha => ⟨M217.pick [0] (by kernel_rfl), ha.sub (by kernel_rfl)⟩
  intro a252 w250 ⟨M251, hS253⟩
  refine N_use hS253 ?_
  have hm := hm235
  refine N_then ?_
  refine G_seq ?_
  refine G_region ?_
  refine W_run 2 [(1, .pointer (some ⟨b194, 0, none⟩)), (3, .string o233), (20, .string o233), (21, .pointer (some ⟨b194, 2, none⟩))] w250 (by kernel_rfl) ?_
  refine W_val (.string x192.Kind) w250 (by kernel_rfl) (E_load (e := 27) (fr := (0, 0)) _ _ false 1 b194 2 [.int .i64 x192.Tick, .int .i64 x192.Guest, .string x192.Kind, .int .i64 x192.Value] (.string x192.Kind) rfl (by kernel_rfl) (by kernel_rfl) (by kernel_rfl) (M251.blk 0 (b := b194) (o := .cells ⟨[.int .i64 x192.Tick, .int .i64 x192.Guest, .string x192.Kind, .int .i64 x192.Value]⟩ 27 (0, 0)) (by kernel_rfl))) ?_
  obtain ⟨q254, hq254, hm⟩ := gx_bind hm
  refine W_val (.string q254) w250 (by kernel_rfl) (E_strCat _ _ _ _ o233 x192.Kind q254 rfl (by kernel_rfl) (by kernel_rfl) hq254) ?_
  refine W_run 1 [(1, .pointer (some ⟨b194, 0, none⟩)), (3, .string q254)] w250 (by kernel_rfl) ?_
  refine W_nil ?_
  refine N_then ?_
  refine G_seq ?_
  refine G_seq ?_
  refine G_region ?_
  refine W_run 1 [(1, .pointer (some ⟨b194, 0, none⟩)), (3, .string q254), (24, .pointer (some ⟨b194, 3, none⟩))] w250 (by kernel_rfl) ?_
  refine W_val (.int .i64 x192.Value) w250 (by kernel_rfl) (E_load (e := 27) (fr := (0, 0)) _ _ false 1 b194 3 [.int .i64 x192.Tick, .int .i64 x192.Guest, .string x192.Kind, .int .i64 x192.Value] (.int .i64 x192.Value) rfl (by kernel_rfl) (by kernel_rfl) (by kernel_rfl) (M251.blk 0 (b := b194) (o := .cells ⟨[.int .i64 x192.Tick, .int .i64 x192.Guest, .string x192.Kind, .int .i64 x192.Value]⟩ 27 (0, 0)) (by kernel_rfl))) ?_
  refine W_run 1 [(1, .pointer (some ⟨b194, 0, none⟩)), (3, .string q254), (26, .bool (decide (x192.Value > 0)))] w250 (by kernel_rfl) ?_
  refine W_nil ?_
  refine N_then ?_
  obtain ⟨o262, ho263, hm264⟩ := gx_bind hm
  refine G_meet (fun a w' => Mem [] w w' [] ∧ Sat Tryd.f9.ntmps [(3, .string o262)] a) ?_ ?_
  · have hm := ho263
    rcases gx_bif hm with ⟨hc265, hm⟩ | ⟨hc265, hm⟩
    · refine G_cond_t (b := (decide (x192.Value > 0))) hc265 (by kernel_rfl) ?_
      refine G_region ?_
      refine W_run 1 [(1, .pointer (some ⟨b194, 0, none⟩)), (3, .string q254), (27, .string q254)] w250 (by kernel_rfl) ?_
      obtain ⟨q266, hq266, hm⟩ := gx_bind hm
      refine W_val (.string q266) w250 (by kernel_rfl) (E_strCat _ _ _ _ q254 (ByteArray.mk #[32]) q266 rfl (by kernel_rfl) (by kernel_rfl) hq266) ?_
      refine W_run 1 [(3, .string q254), (28, .string q266), (29, .pointer (some ⟨b194, 3, none⟩))] w250 (by kernel_rfl) ?_
      refine W_val (.int .i64 x192.Value) w250 (by kernel_rfl) (E_load (e := 27) (fr := (0, 0)) _ _ false 1 b194 3 [.int .i64 x192.Tick, .int .i64 x192.Guest, .string x192.Kind, .int .i64 x192.Value] (.int .i64 x192.Value) rfl (by kernel_rfl) (by kernel_rfl) (by kernel_rfl) (M251.blk 0 (b := b194) (o := .cells ⟨[.int .i64 x192.Tick, .int .i64 x192.Guest, .string x192.Kind, .int .i64 x192.Value]⟩ 27 (0, 0)) (by kernel_rfl))) ?_
      obtain ⟨r267, hr267, hm⟩ := gx_bind hm
      refine W_call 16 #[.int .i64 x192.Value] (by kernel_rfl) (by kernel_rfl) ?_
      refine (c_s_l1Num gxFuel w250 x192.Value hr267).mono ?_
      rintro e_ w268 ⟨rfl, K269⟩
      have M270 := M251.call0 K269
      refine ⟨_, rfl, ?_⟩
      obtain ⟨q271, hq271, hm⟩ := gx_bind hm
      refine W_val (.string q271) w268 (by kernel_rfl) (E_strCat _ _ _ _ q266 r267 q271 rfl (by kernel_rfl) (by kernel_rfl) hq271) ?_
      refine W_run 1 [(3, .string q271)] w268 (by kernel_rfl) ?_
      refine W_nil ?_
      obtain rfl := Option.some.inj hm
      exact N_meet fun a ha => ⟨M270.pick [] (by kernel_rfl), ha.sub (by kernel_rfl)⟩
    refine G_cond_f (b := (decide (x192.Value > 0))) hc265 (by kernel_rfl) ?_
    refine G_skip ?_
    obtain rfl := Option.some.inj hm
    exact N_meet fun a ha => ⟨M251.pick [] (by kernel_rfl), ha.sub (by kernel_rfl)⟩
  intro a274 w272 ⟨M273, hS275⟩
  refine N_use hS275 ?_
  have hm := hm264
  refine N_then ?_
  refine G_seq ?_
  refine G_region ?_
  refine W_run 2 [(2, .string o262)] w272 (by kernel_rfl) ?_
  refine W_nil ?_
  refine N_then ?_
  refine G_ret ?_
  obtain rfl := Option.some.inj hm
  refine N_ret [.string o262] (RVs_cons (RV_tmp (by kernel_rfl)) RVs_nil) ?_
  exact ⟨rfl, M273.pick [] (by kernel_rfl)⟩
theorem c_s_EventText (w : World) (x45 : Event) {r : ByteArray × Bool} (hm : M.s_EventText x45 = some r) :
    Calls Tryd.prog 5 #[.agg #[.int .i64 x45.Tick, .int .i64 x45.Guest, .string x45.Kind, .int .i64 x45.Value]] w fun e w' => e = .returned (.tuple #[.string r.1, .bool r.2]) ∧ Mem [] w w' [] := by
  unfold M.s_EventText at hm
  refine C_enter Tryd.func5 rfl (by kernel_rfl) ?_
  have M0 := Mem.refl [] w
  refine G_seq ?_
  refine G_region ?_
  refine W_new (fun b => .pointer (some ⟨b, 0, none⟩)) (.cells ⟨[.int .i64 x45.Tick, .int .i64 x45.Guest, .string x45.Kind, .int .i64 x45.Value]⟩ 27 (0, 0)) M0 rfl (by kernel_rfl) (by kernel_rfl) ?_
  intro b47 w48 M49
  refine W_run 2 [(1, .pointer (some ⟨b47, 0, none⟩))] w48 (by kernel_rfl) ?_
  refine W_nil ?_
  refine N_then ?_
  refine G_seq ?_
  refine G_seq ?_
  refine G_region ?_
  refine W_val (.agg #[.int .i64 x45.Tick, .int .i64 x45.Guest, .string x45.Kind, .int .i64 x45.Value]) w48 (by kernel_rfl) (E_load (e := 27) (fr := (0, 0)) _ _ true 4 b47 0 [.int .i64 x45.Tick, .int .i64 x45.Guest, .string x45.Kind, .int .i64 x45.Value] (.agg #[.int .i64 x45.Tick, .int .i64 x45.Guest, .string x45.Kind, .int .i64 x45.Value]) rfl (by kernel_rfl) (by kernel_rfl) (by kernel_rfl) (M49.blk 0 (b := b47) (o := .cells ⟨[.int .i64 x45.Tick, .int .i64 x45.Guest, .string x45.Kind, .int .i64 x45.Value]⟩ 27 (0, 0)) (by kernel_rfl))) ?_
  obtain ⟨r187, hr187, hm⟩ := gx_bind hm
  refine W_call 8 #[.agg #[.int .i64 x45.Tick, .int .i64 x45.Guest, .string x45.Kind, .int .i64 x45.Value]] (by kernel_rfl) (by kernel_rfl) ?_
  refine (c_s_l22One w48 x45 hr187).mono ?_
  rintro e_ w188 ⟨rfl, K189⟩
  have M190 := M49.call0 K189
  refine ⟨_, rfl, ?_⟩
  refine W_run 1 [(1, .pointer (some ⟨b47, 0, none⟩)), (6, .bool (!r187))] w188 (by kernel_rfl) ?_
  refine W_nil ?_
  refine N_then ?_
  rcases gx_bif hm with ⟨hc191, hm⟩ | ⟨hc191, hm⟩
  · refine G_cond_t (b := (!r187)) hc191 (by kernel_rfl) ?_
    refine G_seq ?_
    refine G_region ?_
    refine W_run 2 [(2, .string (ByteArray.mk #[])), (3, .bool false)] w188 (by kernel_rfl) ?_
    refine W_nil ?_
    refine N_then ?_
    refine G_ret ?_
    refine N_then_ret ?_
    obtain rfl := Option.some.inj hm
    refine N_ret [.string (ByteArray.mk #[]), .bool false] (RVs_cons (RV_tmp (by kernel_rfl)) (RVs_cons (RV_tmp (by kernel_rfl)) RVs_nil)) ?_
    exact ⟨rfl, M190.pick [] (by kernel_rfl)⟩
  refine G_cond_f (b := (!r187)) hc191 (by kernel_rfl) ?_
  refine G_skip ?_
  refine N_then ?_
  refine G_seq ?_
  refine G_region ?_
  refine W_val (.agg #[.int .i64 x45.Tick, .int .i64 x45.Guest, .string x45.Kind, .int .i64 x45.Value]) w188 (by kernel_rfl) (E_load (e := 27) (fr := (0, 0)) _ _ true 4 b47 0 [.int .i64 x45.Tick, .int .i64 x45.Guest, .string x45.Kind, .int .i64 x45.Value] (.agg #[.int .i64 x45.Tick, .int .i64 x45.Guest, .string x45.Kind, .int .i64 x45.Value]) rfl (by kernel_rfl) (by kernel_rfl) (by kernel_rfl) (M190.blk 0 (b := b47) (o := .cells ⟨[.int .i64 x45.Tick, .int .i64 x45.Guest, .string x45.Kind, .int .i64 x45.Value]⟩ 27 (0, 0)) (by kernel_rfl))) ?_
  obtain ⟨r276, hr276, hm⟩ := gx_bind hm
  refine W_call 9 #[.agg #[.int .i64 x45.Tick, .int .i64 x45.Guest, .string x45.Kind, .int .i64 x45.Value]] (by kernel_rfl) (by kernel_rfl) ?_
  refine (c_s_l22Text w188 x45 hr276).mono ?_
  rintro e_ w277 ⟨rfl, K278⟩
  have M279 := M190.call0 K278
  refine ⟨_, rfl, ?_⟩
  refine W_run 2 [(2, .string r276), (3, .bool true)] w277 (by kernel_rfl) ?_
  refine W_nil ?_
  refine N_then ?_
  refine G_ret ?_
  obtain rfl := Option.some.inj hm
  refine N_ret [.string r276, .bool true] (RVs_cons (RV_tmp (by kernel_rfl)) (RVs_cons (RV_tmp (by kernel_rfl)) RVs_nil)) ?_
  exact ⟨rfl, M279.pick [] (by kernel_rfl)⟩
theorem c_i_inside (w : World) (x299 : Int) (x300 : Int) (x301 : Int) {r : Bool} (hm : M.i_inside x299 x300 x301 = some r) :
    Calls Tryd.prog 22 #[.int .i64 x299, .int .i64 x300, .int .i64 x301] w fun e w' => e = .returned (.bool r) ∧ Mem [] w w' [] := by
  unfold M.i_inside at hm
  refine C_enter Tryd.func22 rfl (by kernel_rfl) ?_
  have M0 := Mem.refl [] w
  refine G_seq ?_
  refine G_region ?_
  refine W_run 1 [(0, .int .i64 x299), (1, .int .i64 x300), (2, .int .i64 x301)] w (by kernel_rfl) ?_
  refine W_nil ?_
  refine N_then ?_
  refine G_seq ?_
  obtain ⟨o303, ho304, hm305⟩ := gx_bind hm
  refine G_meet (fun a w' => Mem [] w w' [] ∧ Sat Tryd.f22.ntmps [(6, .bool o303)] a) ?_ ?_
  · have hm := ho304
    refine G_region ?_
    refine W_run 4 [(0, .int .i64 x299), (2, .int .i64 x301), (10, .bool (decide (x299 ≥ x300)))] w (by kernel_rfl) ?_
    rcases gx_bif hm with ⟨hc306, hm⟩ | ⟨hc306, hm⟩
    · refine W_known 10 true (by kernel_rfl) hc306 ?_
      refine W_run 5 [(6, .bool (decide (x299 ≤ x301)))] w (by kernel_rfl) ?_
      refine W_nil ?_
      obtain rfl := Option.some.inj hm
      exact N_meet fun a ha => ⟨M0.pick [] (by kernel_rfl), ha.sub (by kernel_rfl)⟩
    refine W_known 10 false (by kernel_rfl) hc306 ?_
    refine W_run 5 [(6, .bool false)] w (by kernel_rfl) ?_
    refine W_nil ?_
    obtain rfl := Option.some.inj hm
    exact N_meet fun a ha => ⟨M0.pick [] (by kernel_rfl), ha.sub (by kernel_rfl)⟩
  intro a309 w307 ⟨M308, hS310⟩
  refine N_use hS310 ?_
  have hm := hm305
  refine N_then ?_
  refine G_ret ?_
  obtain rfl := Option.some.inj hm
  refine N_ret [.bool o303] (RVs_cons (RV_tmp (by kernel_rfl)) RVs_nil) ?_
  exact ⟨rfl, M308.pick [] (by kernel_rfl)⟩
theorem c_i_isTick (w : World) (x298 : Int) {r : Bool} (hm : M.i_isTick x298 = some r) :
    Calls Tryd.prog 17 #[.int .i64 x298] w fun e w' => e = .returned (.bool r) ∧ Mem [] w w' [] := by
  unfold M.i_isTick at hm
  refine C_enter Tryd.func17 rfl (by kernel_rfl) ?_
  have M0 := Mem.refl [] w
  refine G_seq ?_
  refine G_region ?_
  refine W_run 1 [(0, .int .i64 x298)] w (by kernel_rfl) ?_
  refine W_nil ?_
  refine N_then ?_
  refine G_seq ?_
  refine G_region ?_
  refine W_run 1 [(3, .int .i64 x298)] w (by kernel_rfl) ?_
  obtain ⟨r311, hr311, hm⟩ := gx_bind hm
  refine W_call 22 #[.int .i64 x298, .int .i64 0, .int .i64 100000] (by kernel_rfl) (by kernel_rfl) ?_
  refine (c_i_inside w x298 0 100000 hr311).mono ?_
  rintro e_ w312 ⟨rfl, K313⟩
  have M314 := M0.call0 K313
  refine ⟨_, rfl, ?_⟩
  refine W_run 1 [(2, .bool r311)] w312 (by kernel_rfl) ?_
  refine W_nil ?_
  refine N_then ?_
  refine G_ret ?_
  obtain rfl := Option.some.inj hm
  refine N_ret [.bool r311] (RVs_cons (RV_tmp (by kernel_rfl)) RVs_nil) ?_
  exact ⟨rfl, M314.pick [] (by kernel_rfl)⟩
theorem c_i_isParty (w : World) (x320 : Int) {r : Bool} (hm : M.i_isParty x320 = some r) :
    Calls Tryd.prog 18 #[.int .i64 x320] w fun e w' => e = .returned (.bool r) ∧ Mem [] w w' [] := by
  unfold M.i_isParty at hm
  refine C_enter Tryd.func18 rfl (by kernel_rfl) ?_
  have M0 := Mem.refl [] w
  refine G_seq ?_
  refine G_region ?_
  refine W_run 1 [(0, .int .i64 x320)] w (by kernel_rfl) ?_
  refine W_nil ?_
  refine N_then ?_
  refine G_seq ?_
  refine G_region ?_
  refine W_run 1 [(3, .int .i64 x320)] w (by kernel_rfl) ?_
  obtain ⟨r321, hr321, hm⟩ := gx_bind hm
  refine W_call 22 #[.int .i64 x320, .int .i64 0, .int .i64 4] (by kernel_rfl) (by kernel_rfl) ?_
  refine (c_i_inside w x320 0 4 hr321).mono ?_
  rintro e_ w322 ⟨rfl, K323⟩
  have M324 := M0.call0 K323
  refine ⟨_, rfl, ?_⟩
  refine W_run 1 [(2, .bool r321)] w322 (by kernel_rfl) ?_
  refine W_nil ?_
  refine N_then ?_
  refine G_ret ?_
  obtain rfl := Option.some.inj hm
  refine N_ret [.bool r321] (RVs_cons (RV_tmp (by kernel_rfl)) RVs_nil) ?_
  exact ⟨rfl, M324.pick [] (by kernel_rfl)⟩
theorem c_i_isWord (w : World) (x331 : ByteArray) {r : Bool} (hm : M.i_isWord x331 = some r) :
    Calls Tryd.prog 23 #[.string x331] w fun e w' => e = .returned (.bool r) ∧ Mem [] w w' [] := by
  unfold M.i_isWord at hm
  refine C_enter Tryd.func23 rfl (by kernel_rfl) ?_
  have M0 := Mem.refl [] w
  refine G_seq ?_
  refine G_region ?_
  refine W_run 1 [(0, .string x331)] w (by kernel_rfl) ?_
  refine W_nil ?_
  refine N_then ?_
  refine G_seq ?_
  refine G_seq ?_
  refine G_region ?_
  refine W_run 1 [(0, .string x331), (3, .int .i64 0)] w (by kernel_rfl) ?_
  refine W_nil ?_
  refine N_then ?_
  obtain ⟨out369, hw370, hmo371⟩ := gx_bind hm
  refine G_meet (fun a w' => ∃ (o372 : Unit), out369 = .inl o372 ∧ Mem [] w w' [] ∧ Sat Tryd.f23.ntmps [(0, .string x331)] a) ?_ ?_
  · refine G_block ?_
    refine G_while (σ := Int) (ρ := (Unit) ⊕ (Bool)) (fun s362 a w' => Mem [] w w' [] ∧ Sat Tryd.f23.ntmps [(0, .string x331), (3, .int .i64 s362)] a) hw370 (fun a ha => ⟨M0.pick [] (by kernel_rfl), ha.sub (by kernel_rfl)⟩) ?_
    clear hm
    intro s362 x363 hm hout364 a365 w366 ⟨M367, hS368⟩
    refine G_use hS368 ?_
    refine G_seq ?_
    refine G_seq ?_
    refine G_region ?_
    refine W_run 4 [(0, .string x331), (3, .int .i64 s362), (7, .bool (decide (s362 < (x331.size : Int))))] w366 (by kernel_rfl) ?_
    refine W_nil ?_
    refine N_then ?_
    rcases gx_bif hm with ⟨hc373, hm⟩ | ⟨hc373, hm⟩
    · refine G_cond_t (b := (decide (s362 < (x331.size : Int)))) hc373 (by kernel_rfl) ?_
      refine G_skip ?_
      refine N_then ?_
      refine G_seq ?_
      refine G_block ?_
      refine G_seq ?_
      obtain ⟨o377, ho378, hm379⟩ := gx_bind hm
      refine G_meet (fun a w' => Mem [] w w' [] ∧ Sat Tryd.f23.ntmps [(0, .string x331), (3, .int .i64 s362), (19, .bool o377)] a) ?_ ?_
      · have hm := ho378
        refine G_region ?_
        refine W_run 2 [(0, .string x331), (3, .int .i64 s362), (10, .string x331), (11, .int .i64 s362)] w366 (by kernel_rfl) ?_
        obtain ⟨q380, hq380, hm⟩ := gx_bind hm
        refine W_val (.int .u8 q380) w366 (by kernel_rfl) (E_strIdx _ _ _ x331 .i64 s362 q380 rfl (by kernel_rfl) (by kernel_rfl) (by kernel_rfl) hq380) ?_
        refine W_run 2 [(0, .string x331), (3, .int .i64 s362), (14, .bool (decide (q380 < 97)))] w366 (by kernel_rfl) ?_
        rcases gx_bif hm with ⟨hc381, hm⟩ | ⟨hc381, hm⟩
        · refine W_known 14 true (by kernel_rfl) hc381 ?_
          refine W_run 5 [(0, .string x331), (3, .int .i64 s362), (19, .bool true)] w366 (by kernel_rfl) ?_
          refine W_nil ?_
          obtain rfl := Option.some.inj hm
          exact N_meet fun a ha => ⟨M367.pick [] (by kernel_rfl), ha.sub (by kernel_rfl)⟩
        refine W_known 14 false (by kernel_rfl) hc381 ?_
        refine W_run 2 [(0, .string x331), (3, .int .i64 s362), (14, .bool false), (15, .string x331), (16, .int .i64 s362)] w366 (by kernel_rfl) ?_
        obtain ⟨q382, hq382, hm⟩ := gx_bind hm
        refine W_val (.int .u8 q382) w366 (by kernel_rfl) (E_strIdx _ _ _ x331 .i64 s362 q382 rfl (by kernel_rfl) (by kernel_rfl) (by kernel_rfl) hq382) ?_
        refine W_run 2 [(0, .string x331), (3, .int .i64 s362), (19, .bool (decide (q382 > 122)))] w366 (by kernel_rfl) ?_
        refine W_nil ?_
        obtain rfl := Option.some.inj hm
        exact N_meet fun a ha => ⟨M367.pick [] (by kernel_rfl), ha.sub (by kernel_rfl)⟩
      intro a385 w383 ⟨M384, hS386⟩
      refine N_use hS386 ?_
      have hm := hm379
      refine N_then ?_
      rcases gx_bif hm with ⟨hc387, hm⟩ | ⟨hc387, hm⟩
      · refine G_cond_t (b := o377) hc387 (by kernel_rfl) ?_
        refine G_seq ?_
        refine G_region ?_
        refine W_run 1 [(2, .bool false)] w383 (by kernel_rfl) ?_
        refine W_nil ?_
        refine N_then ?_
        refine G_ret ?_
        refine N_block_ret ?_
        refine N_then_ret ?_
        refine N_then_ret ?_
        obtain rfl := Option.some.inj hm
        obtain rfl := hout364 _ rfl
        have hm := hmo371; simp only [Sum.elim_inr] at hm
        refine N_block_ret ?_
        refine N_meet_ret ?_
        refine N_then_ret ?_
        obtain rfl := Option.some.inj hm
        refine N_ret [.bool false] (RVs_cons (RV_tmp (by kernel_rfl)) RVs_nil) ?_
        exact ⟨rfl, M384.pick [] (by kernel_rfl)⟩
      refine G_cond_f (b := o377) hc387 (by kernel_rfl) ?_
      refine G_skip ?_
      refine N_block ?_
      refine N_then ?_
      refine G_region ?_
      refine W_run 3 [(0, .string x331), (3, .int .i64 (w64 (s362 + 1)))] w383 (by kernel_rfl) ?_
      refine W_nil ?_
      obtain rfl := Option.some.inj hm
      exact N_loop fun a ha => ⟨_, rfl, M384.pick [] (by kernel_rfl), ha.sub (by kernel_rfl)⟩
    refine G_cond_f (b := (decide (s362 < (x331.size : Int)))) hc373 (by kernel_rfl) ?_
    refine G_exit ?_
    refine N_then_exit ?_
    refine N_then_exit ?_
    refine N_block_eq ?_
    obtain rfl := Option.some.inj hm
    obtain rfl := hout364 _ rfl
    exact N_meet fun a ha => ⟨_, rfl, M367.pick [] (by kernel_rfl), ha.sub (by kernel_rfl)⟩
  intro a388 w389 ⟨o372, hout_, M390, hS391⟩
  refine N_use hS391 ?_
  subst hout_
  have hm := hmo371; simp only [Sum.elim_inl] at hm
  refine N_then ?_
  refine G_seq ?_
  refine G_region ?_
  refine W_run 2 [(21, .int .i64 (x331.size : Int))] w389 (by kernel_rfl) ?_
  obtain ⟨r392, hr392, hm⟩ := gx_bind hm
  refine W_call 22 #[.int .i64 (x331.size : Int), .int .i64 1, .int .i64 10] (by kernel_rfl) (by kernel_rfl) ?_
  refine (c_i_inside w389 (x331.size : Int) 1 10 hr392).mono ?_
  rintro e_ w393 ⟨rfl, K394⟩
  have M395 := M390.call0 K394
  refine ⟨_, rfl, ?_⟩
  refine W_run 1 [(2, .bool r392)] w393 (by kernel_rfl) ?_
  refine W_nil ?_
  refine N_then ?_
  refine G_ret ?_
  obtain rfl := Option.some.inj hm
  refine N_ret [.bool r392] (RVs_cons (RV_tmp (by kernel_rfl)) RVs_nil) ?_
  exact ⟨rfl, M395.pick [] (by kernel_rfl)⟩
theorem c_i_isEventKind (w : World) (x330 : ByteArray) {r : Bool} (hm : M.i_isEventKind x330 = some r) :
    Calls Tryd.prog 19 #[.string x330] w fun e w' => e = .returned (.bool r) ∧ Mem [] w w' [] := by
  unfold M.i_isEventKind at hm
  refine C_enter Tryd.func19 rfl (by kernel_rfl) ?_
  have M0 := Mem.refl [] w
  refine G_seq ?_
  refine G_region ?_
  refine W_run 1 [(0, .string x330)] w (by kernel_rfl) ?_
  refine W_nil ?_
  refine N_then ?_
  refine G_seq ?_
  obtain ⟨o401, ho402, hm403⟩ := gx_bind hm
  refine G_meet (fun a w' => Mem [] w w' [] ∧ Sat Tryd.f19.ntmps [(2, .bool o401)] a) ?_ ?_
  · have hm := ho402
    refine G_region ?_
    refine W_run 1 [(0, .string x330), (3, .string x330)] w (by kernel_rfl) ?_
    obtain ⟨r404, hr404, hm⟩ := gx_bind hm
    refine W_call 23 #[.string x330] (by kernel_rfl) (by kernel_rfl) ?_
    refine (c_i_isWord w x330 hr404).mono ?_
    rintro e_ w405 ⟨rfl, K406⟩
    have M407 := M0.call0 K406
    refine ⟨_, rfl, ?_⟩
    refine W_run 1 [(0, .string x330), (5, .bool r404)] w405 (by kernel_rfl) ?_
    rcases gx_bif hm with ⟨hc408, hm⟩ | ⟨hc408, hm⟩
    · refine W_known 5 true (by kernel_rfl) hc408 ?_
      refine W_run 5 [(2, .bool (decide ((x330.size : Int) ≤ 8)))] w405 (by kernel_rfl) ?_
      refine W_nil ?_
      obtain rfl := Option.some.inj hm
      exact N_meet fun a ha => ⟨M407.pick [] (by kernel_rfl), ha.sub (by kernel_rfl)⟩
    refine W_known 5 false (by kernel_rfl) hc408 ?_
    refine W_run 5 [(2, .bool false)] w405 (by kernel_rfl) ?_
    refine W_nil ?_
    obtain rfl := Option.some.inj hm
    exact N_meet fun a ha => ⟨M407.pick [] (by kernel_rfl), ha.sub (by kernel_rfl)⟩
  intro a411 w409 ⟨M410, hS412⟩
  refine N_use hS412 ?_
  have hm := hm403
  refine N_then ?_
  refine G_ret ?_
  obtain rfl := Option.some.inj hm
  refine N_ret [.bool o401] (RVs_cons (RV_tmp (by kernel_rfl)) RVs_nil) ?_
  exact ⟨rfl, M410.pick [] (by kernel_rfl)⟩
theorem c_i_isWord16 (w : World) (x418 : Int) {r : Bool} (hm : M.i_isWord16 x418 = some r) :
    Calls Tryd.prog 20 #[.int .i64 x418] w fun e w' => e = .returned (.bool r) ∧ Mem [] w w' [] := by
  unfold M.i_isWord16 at hm
  refine C_enter Tryd.func20 rfl (by kernel_rfl) ?_
  have M0 := Mem.refl [] w
  refine G_seq ?_
  refine G_region ?_
  refine W_run 1 [(0, .int .i64 x418)] w (by kernel_rfl) ?_
  refine W_nil ?_
  refine N_then ?_
  refine G_seq ?_
  refine G_region ?_
  refine W_run 1 [(3, .int .i64 x418)] w (by kernel_rfl) ?_
  obtain ⟨r419, hr419, hm⟩ := gx_bind hm
  refine W_call 22 #[.int .i64 x418, .int .i64 0, .int .i64 65535] (by kernel_rfl) (by kernel_rfl) ?_
  refine (c_i_inside w x418 0 65535 hr419).mono ?_
  rintro e_ w420 ⟨rfl, K421⟩
  have M422 := M0.call0 K421
  refine ⟨_, rfl, ?_⟩
  refine W_run 1 [(2, .bool r419)] w420 (by kernel_rfl) ?_
  refine W_nil ?_
  refine N_then ?_
  refine G_ret ?_
  obtain rfl := Option.some.inj hm
  refine N_ret [.bool r419] (RVs_cons (RV_tmp (by kernel_rfl)) RVs_nil) ?_
  exact ⟨rfl, M422.pick [] (by kernel_rfl)⟩
theorem c_i_IsEvent (w : World) (x293 : Event) {r : Bool} (hm : M.i_IsEvent x293 = some r) :
    Calls Tryd.prog 10 #[.agg #[.int .i64 x293.Tick, .int .i64 x293.Guest, .string x293.Kind, .int .i64 x293.Value]] w fun e w' => e = .returned (.bool r) ∧ Mem [] w w' [] := by
  unfold M.i_IsEvent at hm
  refine C_enter Tryd.func10 rfl (by kernel_rfl) ?_
  have M0 := Mem.refl [] w
  refine G_seq ?_
  refine G_region ?_
  refine W_new (fun b => .pointer (some ⟨b, 0, none⟩)) (.cells ⟨[.int .i64 x293.Tick, .int .i64 x293.Guest, .string x293.Kind, .int .i64 x293.Value]⟩ 27 (0, 0)) M0 rfl (by kernel_rfl) (by kernel_rfl) ?_
  intro b295 w296 M297
  refine W_run 1 [(1, .pointer (some ⟨b295, 0, none⟩))] w296 (by kernel_rfl) ?_
  refine W_nil ?_
  refine N_then ?_
  refine G_seq ?_
  obtain ⟨o427, ho428, hm429⟩ := gx_bind hm
  refine G_meet (fun a w' => Mem [] w w' [] ∧ Sat Tryd.f10.ntmps [(2, .bool o427)] a) ?_ ?_
  · have hm := ho428
    refine G_region ?_
    refine W_run 1 [(1, .pointer (some ⟨b295, 0, none⟩)), (3, .pointer (some ⟨b295, 0, none⟩))] w296 (by kernel_rfl) ?_
    refine W_val (.int .i64 x293.Tick) w296 (by kernel_rfl) (E_load (e := 27) (fr := (0, 0)) _ _ false 1 b295 0 [.int .i64 x293.Tick, .int .i64 x293.Guest, .string x293.Kind, .int .i64 x293.Value] (.int .i64 x293.Tick) rfl (by kernel_rfl) (by kernel_rfl) (by kernel_rfl) (M297.blk 0 (b := b295) (o := .cells ⟨[.int .i64 x293.Tick, .int .i64 x293.Guest, .string x293.Kind, .int .i64 x293.Value]⟩ 27 (0, 0)) (by kernel_rfl))) ?_
    obtain ⟨r430, hr430, hm⟩ := gx_bind hm
    refine W_call 17 #[.int .i64 x293.Tick] (by kernel_rfl) (by kernel_rfl) ?_
    refine (c_i_isTick w296 x293.Tick hr430).mono ?_
    rintro e_ w431 ⟨rfl, K432⟩
    have M433 := M297.call0 K432
    refine ⟨_, rfl, ?_⟩
    refine W_run 1 [(1, .pointer (some ⟨b295, 0, none⟩)), (6, .bool r430)] w431 (by kernel_rfl) ?_
    rcases gx_bif hm with ⟨hc434, hm⟩ | ⟨hc434, hm⟩
    · refine W_known 6 true (by kernel_rfl) hc434 ?_
      refine W_run 1 [(1, .pointer (some ⟨b295, 0, none⟩)), (6, .bool true), (7, .pointer (some ⟨b295, 1, none⟩))] w431 (by kernel_rfl) ?_
      refine W_val (.int .i64 x293.Guest) w431 (by kernel_rfl) (E_load (e := 27) (fr := (0, 0)) _ _ false 1 b295 1 [.int .i64 x293.Tick, .int .i64 x293.Guest, .string x293.Kind, .int .i64 x293.Value] (.int .i64 x293.Guest) rfl (by kernel_rfl) (by kernel_rfl) (by kernel_rfl) (M433.blk 0 (b := b295) (o := .cells ⟨[.int .i64 x293.Tick, .int .i64 x293.Guest, .string x293.Kind, .int .i64 x293.Value]⟩ 27 (0, 0)) (by kernel_rfl))) ?_
      obtain ⟨r435, hr435, hm⟩ := gx_bind hm
      refine W_call 18 #[.int .i64 x293.Guest] (by kernel_rfl) (by kernel_rfl) ?_
      refine (c_i_isParty w431 x293.Guest hr435).mono ?_
      rintro e_ w436 ⟨rfl, K437⟩
      have M438 := M433.call0 K437
      refine ⟨_, rfl, ?_⟩
      refine W_run 2 [(1, .pointer (some ⟨b295, 0, none⟩)), (11, .bool r435)] w436 (by kernel_rfl) ?_
      rcases gx_bif hm with ⟨hc439, hm⟩ | ⟨hc439, hm⟩
      · refine W_known 11 true (by kernel_rfl) hc439 ?_
        refine W_run 1 [(1, .pointer (some ⟨b295, 0, none⟩)), (11, .bool true), (12, .pointer (some ⟨b295, 2, none⟩))] w436 (by kernel_rfl) ?_
        refine W_val (.string x293.Kind) w436 (by kernel_rfl) (E_load (e := 27) (fr := (0, 0)) _ _ false 1 b295 2 [.int .i64 x293.Tick, .int .i64 x293.Guest, .string x293.Kind, .int .i64 x293.Value] (.string x293.Kind) rfl (by kernel_rfl) (by kernel_rfl) (by kernel_rfl) (M438.blk 0 (b := b295) (o := .cells ⟨[.int .i64 x293.Tick, .int .i64 x293.Guest, .string x293.Kind, .int .i64 x293.Value]⟩ 27 (0, 0)) (by kernel_rfl))) ?_
        obtain ⟨r440, hr440, hm⟩ := gx_bind hm
        refine W_call 19 #[.string x293.Kind] (by kernel_rfl) (by kernel_rfl) ?_
        refine (c_i_isEventKind w436 x293.Kind hr440).mono ?_
        rintro e_ w441 ⟨rfl, K442⟩
        have M443 := M438.call0 K442
        refine ⟨_, rfl, ?_⟩
        refine W_run 2 [(1, .pointer (some ⟨b295, 0, none⟩)), (16, .bool r440)] w441 (by kernel_rfl) ?_
        rcases gx_bif hm with ⟨hc444, hm⟩ | ⟨hc444, hm⟩
        · refine W_known 16 true (by kernel_rfl) hc444 ?_
          refine W_run 1 [(16, .bool true), (17, .pointer (some ⟨b295, 3, none⟩))] w441 (by kernel_rfl) ?_
          refine W_val (.int .i64 x293.Value) w441 (by kernel_rfl) (E_load (e := 27) (fr := (0, 0)) _ _ false 1 b295 3 [.int .i64 x293.Tick, .int .i64 x293.Guest, .string x293.Kind, .int .i64 x293.Value] (.int .i64 x293.Value) rfl (by kernel_rfl) (by kernel_rfl) (by kernel_rfl) (M443.blk 0 (b := b295) (o := .cells ⟨[.int .i64 x293.Tick, .int .i64 x293.Guest, .string x293.Kind, .int .i64 x293.Value]⟩ 27 (0, 0)) (by kernel_rfl))) ?_
          obtain ⟨r445, hr445, hm⟩ := gx_bind hm
          refine W_call 20 #[.int .i64 x293.Value] (by kernel_rfl) (by kernel_rfl) ?_
          refine (c_i_isWord16 w441 x293.Value hr445).mono ?_
          rintro e_ w446 ⟨rfl, K447⟩
          have M448 := M443.call0 K447
          refine ⟨_, rfl, ?_⟩
          refine W_run 2 [(2, .bool r445)] w446 (by kernel_rfl) ?_
          refine W_nil ?_
          obtain rfl := Option.some.inj hm
          exact N_meet fun a ha => ⟨M448.pick [] (by kernel_rfl), ha.sub (by kernel_rfl)⟩
        refine W_known 16 false (by kernel_rfl) hc444 ?_
        refine W_run 5 [(2, .bool false)] w441 (by kernel_rfl) ?_
        refine W_nil ?_
        obtain rfl := Option.some.inj hm
        exact N_meet fun a ha => ⟨M443.pick [] (by kernel_rfl), ha.sub (by kernel_rfl)⟩
      refine W_known 11 false (by kernel_rfl) hc439 ?_
      refine W_run 10 [(2, .bool false)] w436 (by kernel_rfl) ?_
      refine W_nil ?_
      obtain rfl := Option.some.inj hm
      exact N_meet fun a ha => ⟨M438.pick [] (by kernel_rfl), ha.sub (by kernel_rfl)⟩
    refine W_known 6 false (by kernel_rfl) hc434 ?_
    refine W_run 15 [(2, .bool false)] w431 (by kernel_rfl) ?_
    refine W_nil ?_
    obtain rfl := Option.some.inj hm
    exact N_meet fun a ha => ⟨M433.pick [] (by kernel_rfl), ha.sub (by kernel_rfl)⟩
  intro a451 w449 ⟨M450, hS452⟩
  refine N_use hS452 ?_
  have hm := hm429
  refine N_then ?_
  refine G_ret ?_
  obtain rfl := Option.some.inj hm
  refine N_ret [.bool o427] (RVs_cons (RV_tmp (by kernel_rfl)) RVs_nil) ?_
  exact ⟨rfl, M450.pick [] (by kernel_rfl)⟩
theorem c_strconv_Itoa (w : World) (x464 : Int) (ht_ : TabX Tryd.prog w) {r : ByteArray} (hm : M.strconv_Itoa x464 = some r) :
    Calls Tryd.prog 21 #[.int .i64 x464] w fun e w' => e = .returned (.string r) ∧ Mem [] w w' [] := by
  unfold M.strconv_Itoa at hm
  rcases gx_bif hm with ⟨h, hm⟩ | ⟨h, hm⟩
  · obtain rfl := Option.some.inj hm
    rw [Bool.and_eq_true, decide_eq_true_eq, decide_eq_true_eq] at h
    exact itoa_run Tryd.strconv_Itoa x464 w h.1 h.2 ht_
  cases hm
theorem c_i_eventText (w : World) (x458 : Event) (ht_ : TabX Tryd.prog w) {r : ByteArray} (hm : M.i_eventText x458 = some r) :
    Calls Tryd.prog 11 #[.agg #[.int .i64 x458.Tick, .int .i64 x458.Guest, .string x458.Kind, .int .i64 x458.Value]] w fun e w' => e = .returned (.string r) ∧ Mem [] w w' [] := by
  unfold M.i_eventText at hm
  refine C_enter Tryd.func11 rfl (by kernel_rfl) ?_
  have M0 := Mem.refl [] w
  refine G_seq ?_
  refine G_region ?_
  refine W_new (fun b => .pointer (some ⟨b, 0, none⟩)) (.cells ⟨[.int .i64 x458.Tick, .int .i64 x458.Guest, .string x458.Kind, .int .i64 x458.Value]⟩ 27 (0, 0)) M0 rfl (by kernel_rfl) (by kernel_rfl) ?_
  intro b460 w461 M462
  refine W_run 1 [(1, .pointer (some ⟨b460, 0, none⟩))] w461 (by kernel_rfl) ?_
  refine W_nil ?_
  refine N_then ?_
  refine G_seq ?_
  refine G_region ?_
  refine W_run 1 [(1, .pointer (some ⟨b460, 0, none⟩)), (3, .string (ByteArray.mk #[109, 97, 99, 104, 105, 110, 101]))] w461 (by kernel_rfl) ?_
  refine W_nil ?_
  refine N_then ?_
  refine G_seq ?_
  refine G_seq ?_
  refine G_region ?_
  refine W_run 1 [(1, .pointer (some ⟨b460, 0, none⟩)), (3, .string (ByteArray.mk #[109, 97, 99, 104, 105, 110, 101])), (5, .pointer (some ⟨b460, 1, none⟩))] w461 (by kernel_rfl) ?_
  refine W_val (.int .i64 x458.Guest) w461 (by kernel_rfl) (E_load (e := 27) (fr := (0, 0)) _ _ false 1 b460 1 [.int .i64 x458.Tick, .int .i64 x458.Guest, .string x458.Kind, .int .i64 x458.Value] (.int .i64 x458.Guest) rfl (by kernel_rfl) (by kernel_rfl) (by kernel_rfl) (M462.blk 0 (b := b460) (o := .cells ⟨[.int .i64 x458.Tick, .int .i64 x458.Guest, .string x458.Kind, .int .i64 x458.Value]⟩ 27 (0, 0)) (by kernel_rfl))) ?_
  refine W_run 1 [(1, .pointer (some ⟨b460, 0, none⟩)), (3, .string (ByteArray.mk #[109, 97, 99, 104, 105, 110, 101])), (7, .bool (decide (x458.Guest > 0)))] w461 (by kernel_rfl) ?_
  refine W_nil ?_
  refine N_then ?_
  obtain ⟨o470, ho471, hm472⟩ := gx_bind hm
  refine G_meet (fun a w' => Mem [] w w' [[(b460, .cells ⟨[.int .i64 x458.Tick, .int .i64 x458.Guest, .string x458.Kind, .int .i64 x458.Value]⟩ 27 (0, 0))]] ∧ Sat Tryd.f11.ntmps [(1, .pointer (some ⟨b460, 0, none⟩)), (3, .string o470)] a) ?_ ?_
  · have hm := ho471
    rcases gx_bif hm with ⟨hc473, hm⟩ | ⟨hc473, hm⟩
    · refine G_cond_t (b := (decide (x458.Guest > 0))) hc473 (by kernel_rfl) ?_
      refine G_region ?_
      refine W_run 1 [(1, .pointer (some ⟨b460, 0, none⟩)), (3, .string (ByteArray.mk #[109, 97, 99, 104, 105, 110, 101])), (8, .pointer (some ⟨b460, 1, none⟩))] w461 (by kernel_rfl) ?_
      refine W_val (.int .i64 x458.Guest) w461 (by kernel_rfl) (E_load (e := 27) (fr := (0, 0)) _ _ false 1 b460 1 [.int .i64 x458.Tick, .int .i64 x458.Guest, .string x458.Kind, .int .i64 x458.Value] (.int .i64 x458.Guest) rfl (by kernel_rfl) (by kernel_rfl) (by kernel_rfl) (M462.blk 0 (b := b460) (o := .cells ⟨[.int .i64 x458.Tick, .int .i64 x458.Guest, .string x458.Kind, .int .i64 x458.Value]⟩ 27 (0, 0)) (by kernel_rfl))) ?_
      obtain ⟨r474, hr474, hm⟩ := gx_bind hm
      refine W_call 21 #[.int .i64 x458.Guest] (by kernel_rfl) (by kernel_rfl) ?_
      refine (c_strconv_Itoa w461 x458.Guest (TabM ht_ M462) hr474).mono ?_
      rintro e_ w475 ⟨rfl, K476⟩
      have M477 := M462.call0 K476
      refine ⟨_, rfl, ?_⟩
      obtain ⟨q478, hq478, hm⟩ := gx_bind hm
      refine W_val (.string q478) w475 (by kernel_rfl) (E_strCat _ _ _ _ (ByteArray.mk #[103, 117, 101, 115, 116, 32]) r474 q478 rfl (by kernel_rfl) (by kernel_rfl) hq478) ?_
      refine W_run 1 [(1, .pointer (some ⟨b460, 0, none⟩)), (3, .string q478)] w475 (by kernel_rfl) ?_
      refine W_nil ?_
      obtain rfl := Option.some.inj hm
      exact N_meet fun a ha => ⟨M477.pick [0] (by kernel_rfl), ha.sub (by kernel_rfl)⟩
    refine G_cond_f (b := (decide (x458.Guest > 0))) hc473 (by kernel_rfl) ?_
    refine G_skip ?_
    obtain rfl := Option.some.inj hm
    exact N_meet fun a ha => ⟨M462.pick [0] (by kernel_rfl), ha.sub (by kernel_rfl)⟩
  intro a481 w479 ⟨M480, hS482⟩
  refine N_use hS482 ?_
  have hm := hm472
  refine N_then ?_
  refine G_seq ?_
  refine G_quiet (by kernel_rfl) (by kernel_rfl) M480 ?_
  refine Z_runs [.pointer (some ⟨b460, 0, none⟩)] [(1, .pointer (some ⟨b460, 0, none⟩)), (3, .string o470), (12, .pointer (some ⟨b460, 0, none⟩))] (fun w_ => by kernel_rfl) (by kernel_rfl) ?_
  refine Z_val (.int .i64 x458.Tick) (by kernel_rfl) (fun w_ M_ => (E_load (e := 27) (fr := (0, 0)) _ _ false 1 b460 0 [.int .i64 x458.Tick, .int .i64 x458.Guest, .string x458.Kind, .int .i64 x458.Value] (.int .i64 x458.Tick) rfl (by kernel_rfl) (by kernel_rfl) (by kernel_rfl) (M_.blk 0 (b := b460) (o := .cells ⟨[.int .i64 x458.Tick, .int .i64 x458.Guest, .string x458.Kind, .int .i64 x458.Value]⟩ 27 (0, 0)) (by kernel_rfl)))) ?_
  obtain ⟨r483, hr483, hm⟩ := gx_bind hm
  refine Z_call 21 #[.int .i64 x458.Tick] (.string r483) (by kernel_rfl) (fun w_ => by kernel_rfl) (fun w_ M_ => (c_strconv_Itoa w_ x458.Tick (TabM ht_ M_) hr483).mono fun e w2_ h_ => ⟨h_.1, M_.call0 h_.2⟩) ?_
  obtain ⟨q487, hq487, hm⟩ := gx_bind hm
  refine Z_val (.string q487) (by kernel_rfl) (fun w_ M_ => (E_strCat _ _ _ _ r483 (ByteArray.mk #[32]) q487 rfl (by kernel_rfl) (by kernel_rfl) hq487)) ?_
  refine Z_runs [.string o470] [(1, .pointer (some ⟨b460, 0, none⟩)), (15, .string q487), (16, .string o470)] (fun w_ => by kernel_rfl) (by kernel_rfl) ?_
  obtain ⟨q488, hq488, hm⟩ := gx_bind hm
  refine Z_val (.string q488) (by kernel_rfl) (fun w_ M_ => (E_strCat _ _ _ _ q487 o470 q488 rfl (by kernel_rfl) (by kernel_rfl) hq488)) ?_
  obtain ⟨q489, hq489, hm⟩ := gx_bind hm
  refine Z_val (.string q489) (by kernel_rfl) (fun w_ M_ => (E_strCat _ _ _ _ q488 (ByteArray.mk #[32]) q489 rfl (by kernel_rfl) (by kernel_rfl) hq489)) ?_
  refine Z_runs [.pointer (some ⟨b460, 2, none⟩)] [(1, .pointer (some ⟨b460, 0, none⟩)), (18, .string q489), (19, .pointer (some ⟨b460, 2, none⟩))] (fun w_ => by kernel_rfl) (by kernel_rfl) ?_
  refine Z_val (.string x458.Kind) (by kernel_rfl) (fun w_ M_ => (E_load (e := 27) (fr := (0, 0)) _ _ false 1 b460 2 [.int .i64 x458.Tick, .int .i64 x458.Guest, .string x458.Kind, .int .i64 x458.Value] (.string x458.Kind) rfl (by kernel_rfl) (by kernel_rfl) (by kernel_rfl) (M_.blk 0 (b := b460) (o := .cells ⟨[.int .i64 x458.Tick, .int .i64 x458.Guest, .string x458.Kind, .int .i64 x458.Value]⟩ 27 (0, 0)) (by kernel_rfl)))) ?_
  obtain ⟨q490, hq490, hm⟩ := gx_bind hm
  refine Z_val (.string q490) (by kernel_rfl) (fun w_ M_ => (E_strCat _ _ _ _ q489 x458.Kind q490 rfl (by kernel_rfl) (by kernel_rfl) hq490)) ?_
  refine Z_runs [.string q490] [(1, .pointer (some ⟨b460, 0, none⟩)), (4, .string q490)] (fun w_ => by kernel_rfl) (by kernel_rfl) ?_
  refine Z_end fun w491 M492 => ?_
  refine N_then ?_
  refine G_seq ?_
  refine G_seq ?_
  refine G_region ?_
  refine W_run 1 [(1, .pointer (some ⟨b460, 0, none⟩)), (4, .string q490), (22, .pointer (some ⟨b460, 3, none⟩))] w491 (by kernel_rfl) ?_
  refine W_val (.int .i64 x458.Value) w491 (by kernel_rfl) (E_load (e := 27) (fr := (0, 0)) _ _ false 1 b460 3 [.int .i64 x458.Tick, .int .i64 x458.Guest, .string x458.Kind, .int .i64 x458.Value] (.int .i64 x458.Value) rfl (by kernel_rfl) (by kernel_rfl) (by kernel_rfl) (M492.blk 0 (b := b460) (o := .cells ⟨[.int .i64 x458.Tick, .int .i64 x458.Guest, .string x458.Kind, .int .i64 x458.Value]⟩ 27 (0, 0)) (by kernel_rfl))) ?_
  refine W_run 1 [(1, .pointer (some ⟨b460, 0, none⟩)), (4, .string q490), (24, .bool (decide (x458.Value > 0)))] w491 (by kernel_rfl) ?_
  refine W_nil ?_
  refine N_then ?_
  obtain ⟨o500, ho501, hm502⟩ := gx_bind hm
  refine G_meet (fun a w' => Mem [] w w' [] ∧ Sat Tryd.f11.ntmps [(4, .string o500)] a) ?_ ?_
  · have hm := ho501
    rcases gx_bif hm with ⟨hc503, hm⟩ | ⟨hc503, hm⟩
    · refine G_cond_t (b := (decide (x458.Value > 0))) hc503 (by kernel_rfl) ?_
      refine G_region ?_
      refine W_run 2 [(4, .string q490), (25, .string q490), (26, .pointer (some ⟨b460, 3, none⟩))] w491 (by kernel_rfl) ?_
      refine W_val (.int .i64 x458.Value) w491 (by kernel_rfl) (E_load (e := 27) (fr := (0, 0)) _ _ false 1 b460 3 [.int .i64 x458.Tick, .int .i64 x458.Guest, .string x458.Kind, .int .i64 x458.Value] (.int .i64 x458.Value) rfl (by kernel_rfl) (by kernel_rfl) (by kernel_rfl) (M492.blk 0 (b := b460) (o := .cells ⟨[.int .i64 x458.Tick, .int .i64 x458.Guest, .string x458.Kind, .int .i64 x458.Value]⟩ 27 (0, 0)) (by kernel_rfl))) ?_
      obtain ⟨r504, hr504, hm⟩ := gx_bind hm
      refine W_call 21 #[.int .i64 x458.Value] (by kernel_rfl) (by kernel_rfl) ?_
      refine (c_strconv_Itoa w491 x458.Value (TabM ht_ M492) hr504).mono ?_
      rintro e_ w505 ⟨rfl, K506⟩
      have M507 := M492.call0 K506
      refine ⟨_, rfl, ?_⟩
      obtain ⟨q508, hq508, hm⟩ := gx_bind hm
      refine W_val (.string q508) w505 (by kernel_rfl) (E_strCat _ _ _ _ (ByteArray.mk #[32]) r504 q508 rfl (by kernel_rfl) (by kernel_rfl) hq508) ?_
      obtain ⟨q509, hq509, hm⟩ := gx_bind hm
      refine W_val (.string q509) w505 (by kernel_rfl) (E_strCat _ _ _ _ q490 q508 q509 rfl (by kernel_rfl) (by kernel_rfl) hq509) ?_
      refine W_run 1 [(4, .string q509)] w505 (by kernel_rfl) ?_
      refine W_nil ?_
      obtain rfl := Option.some.inj hm
      exact N_meet fun a ha => ⟨M507.pick [] (by kernel_rfl), ha.sub (by kernel_rfl)⟩
    refine G_cond_f (b := (decide (x458.Value > 0))) hc503 (by kernel_rfl) ?_
    refine G_skip ?_
    obtain rfl := Option.some.inj hm
    exact N_meet fun a ha => ⟨M492.pick [] (by kernel_rfl), ha.sub (by kernel_rfl)⟩
  intro a512 w510 ⟨M511, hS513⟩
  refine N_use hS513 ?_
  have hm := hm502
  refine N_then ?_
  refine G_seq ?_
  refine G_region ?_
  refine W_run 2 [(2, .string o500)] w510 (by kernel_rfl) ?_
  refine W_nil ?_
  refine N_then ?_
  refine G_ret ?_
  obtain rfl := Option.some.inj hm
  refine N_ret [.string o500] (RVs_cons (RV_tmp (by kernel_rfl)) RVs_nil) ?_
  exact ⟨rfl, M511.pick [] (by kernel_rfl)⟩
theorem c_i_EventText (w : World) (x288 : Event) (ht_ : TabX Tryd.prog w) {r : ByteArray × Bool} (hm : M.i_EventText x288 = some r) :
    Calls Tryd.prog 7 #[.agg #[.int .i64 x288.Tick, .int .i64 x288.Guest, .string x288.Kind, .int .i64 x288.Value]] w fun e w' => e = .returned (.tuple #[.string r.1, .bool r.2]) ∧ Mem [] w w' [] := by
  unfold M.i_EventText at hm
  refine C_enter Tryd.func7 rfl (by kernel_rfl) ?_
  have M0 := Mem.refl [] w
  refine G_seq ?_
  refine G_region ?_
  refine W_new (fun b => .pointer (some ⟨b, 0, none⟩)) (.cells ⟨[.int .i64 x288.Tick, .int .i64 x288.Guest, .string x288.Kind, .int .i64 x288.Value]⟩ 27 (0, 0)) M0 rfl (by kernel_rfl) (by kernel_rfl) ?_
  intro b290 w291 M292
  refine W_run 2 [(1, .pointer (some ⟨b290, 0, none⟩))] w291 (by kernel_rfl) ?_
  refine W_nil ?_
  refine N_then ?_
  refine G_seq ?_
  refine G_seq ?_
  refine G_region ?_
  refine W_val (.agg #[.int .i64 x288.Tick, .int .i64 x288.Guest, .string x288.Kind, .int .i64 x288.Value]) w291 (by kernel_rfl) (E_load (e := 27) (fr := (0, 0)) _ _ true 4 b290 0 [.int .i64 x288.Tick, .int .i64 x288.Guest, .string x288.Kind, .int .i64 x288.Value] (.agg #[.int .i64 x288.Tick, .int .i64 x288.Guest, .string x288.Kind, .int .i64 x288.Value]) rfl (by kernel_rfl) (by kernel_rfl) (by kernel_rfl) (M292.blk 0 (b := b290) (o := .cells ⟨[.int .i64 x288.Tick, .int .i64 x288.Guest, .string x288.Kind, .int .i64 x288.Value]⟩ 27 (0, 0)) (by kernel_rfl))) ?_
  obtain ⟨r453, hr453, hm⟩ := gx_bind hm
  refine W_call 10 #[.agg #[.int .i64 x288.Tick, .int .i64 x288.Guest, .string x288.Kind, .int .i64 x288.Value]] (by kernel_rfl) (by kernel_rfl) ?_
  refine (c_i_IsEvent w291 x288 hr453).mono ?_
  rintro e_ w454 ⟨rfl, K455⟩
  have M456 := M292.call0 K455
  refine ⟨_, rfl, ?_⟩
  refine W_run 1 [(1, .pointer (some ⟨b290, 0, none⟩)), (6, .bool (!r453))] w454 (by kernel_rfl) ?_
  refine W_nil ?_
  refine N_then ?_
  rcases gx_bif hm with ⟨hc457, hm⟩ | ⟨hc457, hm⟩
  · refine G_cond_t (b := (!r453)) hc457 (by kernel_rfl) ?_
    refine G_seq ?_
    refine G_region ?_
    refine W_run 2 [(2, .string (ByteArray.mk #[])), (3, .bool false)] w454 (by kernel_rfl) ?_
    refine W_nil ?_
    refine N_then ?_
    refine G_ret ?_
    refine N_then_ret ?_
    obtain rfl := Option.some.inj hm
    refine N_ret [.string (ByteArray.mk #[]), .bool false] (RVs_cons (RV_tmp (by kernel_rfl)) (RVs_cons (RV_tmp (by kernel_rfl)) RVs_nil)) ?_
    exact ⟨rfl, M456.pick [] (by kernel_rfl)⟩
  refine G_cond_f (b := (!r453)) hc457 (by kernel_rfl) ?_
  refine G_skip ?_
  refine N_then ?_
  refine G_seq ?_
  refine G_region ?_
  refine W_val (.agg #[.int .i64 x288.Tick, .int .i64 x288.Guest, .string x288.Kind, .int .i64 x288.Value]) w454 (by kernel_rfl) (E_load (e := 27) (fr := (0, 0)) _ _ true 4 b290 0 [.int .i64 x288.Tick, .int .i64 x288.Guest, .string x288.Kind, .int .i64 x288.Value] (.agg #[.int .i64 x288.Tick, .int .i64 x288.Guest, .string x288.Kind, .int .i64 x288.Value]) rfl (by kernel_rfl) (by kernel_rfl) (by kernel_rfl) (M456.blk 0 (b := b290) (o := .cells ⟨[.int .i64 x288.Tick, .int .i64 x288.Guest, .string x288.Kind, .int .i64 x288.Value]⟩ 27 (0, 0)) (by kernel_rfl))) ?_
  obtain ⟨r514, hr514, hm⟩ := gx_bind hm
  refine W_call 11 #[.agg #[.int .i64 x288.Tick, .int .i64 x288.Guest, .string x288.Kind, .int .i64 x288.Value]] (by kernel_rfl) (by kernel_rfl) ?_
  refine (c_i_eventText w454 x288 (TabM ht_ M456) hr514).mono ?_
  rintro e_ w515 ⟨rfl, K516⟩
  have M517 := M456.call0 K516
  refine ⟨_, rfl, ?_⟩
  refine W_run 2 [(2, .string r514), (3, .bool true)] w515 (by kernel_rfl) ?_
  refine W_nil ?_
  refine N_then ?_
  refine G_ret ?_
  obtain rfl := Option.some.inj hm
  refine N_ret [.string r514, .bool true] (RVs_cons (RV_tmp (by kernel_rfl)) (RVs_cons (RV_tmp (by kernel_rfl)) RVs_nil)) ?_
  exact ⟨rfl, M517.pick [] (by kernel_rfl)⟩
theorem c_l_FnExactEventText (w : World) (x1 : Event) (ht_ : TabX Tryd.prog w) {r : Bool} (hm : M.l_FnExactEventText x1 = some r) :
    Calls Tryd.prog 3 #[.agg #[.int .i64 x1.Tick, .int .i64 x1.Guest, .string x1.Kind, .int .i64 x1.Value]] w fun e w' => e = .returned (.bool r) ∧ Mem [] w w' [] := by
  unfold M.l_FnExactEventText at hm
  refine C_enter Tryd.func3 rfl (by kernel_rfl) ?_
  have M0 := Mem.refl [] w
  refine G_seq ?_
  refine G_region ?_
  refine W_new (fun b => .pointer (some ⟨b, 0, none⟩)) (.cells ⟨[.int .i64 x1.Tick, .int .i64 x1.Guest, .string x1.Kind, .int .i64 x1.Value]⟩ 23 (0, 0)) M0 rfl (by kernel_rfl) (by kernel_rfl) ?_
  intro b3 w4 M5
  refine W_run 1 [(1, .pointer (some ⟨b3, 0, none⟩))] w4 (by kernel_rfl) ?_
  refine W_nil ?_
  refine N_then ?_
  refine G_seq ?_
  refine G_region ?_
  refine W_run 1 [(1, .pointer (some ⟨b3, 0, none⟩)), (3, .int .i64 1048576)] w4 (by kernel_rfl) ?_
  refine W_nil ?_
  refine N_then ?_
  refine G_seq ?_
  refine G_region ?_
  refine W_val (.agg #[.int .i64 x1.Tick, .int .i64 x1.Guest, .string x1.Kind, .int .i64 x1.Value]) w4 (by kernel_rfl) (E_load (e := 23) (fr := (0, 0)) _ _ true 4 b3 0 [.int .i64 x1.Tick, .int .i64 x1.Guest, .string x1.Kind, .int .i64 x1.Value] (.agg #[.int .i64 x1.Tick, .int .i64 x1.Guest, .string x1.Kind, .int .i64 x1.Value]) rfl (by kernel_rfl) (by kernel_rfl) (by kernel_rfl) (M5.blk 0 (b := b3) (o := .cells ⟨[.int .i64 x1.Tick, .int .i64 x1.Guest, .string x1.Kind, .int .i64 x1.Value]⟩ 23 (0, 0)) (by kernel_rfl))) ?_
  refine W_run 1 [(1, .pointer (some ⟨b3, 0, none⟩)), (3, .int .i64 1048576), (8, .agg #[.int .i64 x1.Tick, .int .i64 x1.Guest, .string x1.Kind, .int .i64 x1.Value]), (9, .int .i64 1048576)] w4 (by kernel_rfl) ?_
  obtain ⟨r13, hr13, hm⟩ := gx_bind hm
  refine W_call 4 #[.agg #[.int .i64 x1.Tick, .int .i64 x1.Guest, .string x1.Kind, .int .i64 x1.Value], .int .i64 1048576] (by kernel_rfl) (by kernel_rfl) ?_
  refine (c_l_szEvent w4 x1 1048576 hr13).mono ?_
  rintro e_ w14 ⟨rfl, K15⟩
  have M16 := M5.call0 K15
  refine ⟨_, rfl, ?_⟩
  refine W_run 1 [(1, .pointer (some ⟨b3, 0, none⟩)), (3, .int .i64 r13)] w14 (by kernel_rfl) ?_
  refine W_nil ?_
  refine N_then ?_
  refine G_seq ?_
  refine G_seq ?_
  refine G_region ?_
  refine W_run 2 [(1, .pointer (some ⟨b3, 0, none⟩)), (12, .bool (decide (r13 < 0)))] w14 (by kernel_rfl) ?_
  refine W_nil ?_
  refine N_then ?_
  rcases gx_bif hm with ⟨hc17, hm⟩ | ⟨hc17, hm⟩
  · refine G_cond_t (b := (decide (r13 < 0))) hc17 (by kernel_rfl) ?_
    refine G_seq ?_
    refine G_region ?_
    refine W_run 1 [(2, .bool true)] w14 (by kernel_rfl) ?_
    refine W_nil ?_
    refine N_then ?_
    refine G_ret ?_
    refine N_then_ret ?_
    obtain rfl := Option.some.inj hm
    refine N_ret [.bool true] (RVs_cons (RV_tmp (by kernel_rfl)) RVs_nil) ?_
    exact ⟨rfl, M16.pick [] (by kernel_rfl)⟩
  refine G_cond_f (b := (decide (r13 < 0))) hc17 (by kernel_rfl) ?_
  refine G_skip ?_
  refine N_then ?_
  refine G_seq ?_
  refine G_region ?_
  refine W_val (.agg #[.int .i64 x1.Tick, .int .i64 x1.Guest, .string x1.Kind, .int .i64 x1.Value]) w14 (by kernel_rfl) (E_load (e := 23) (fr := (0, 0)) _ _ true 4 b3 0 [.int .i64 x1.Tick, .int .i64 x1.Guest, .string x1.Kind, .int .i64 x1.Value] (.agg #[.int .i64 x1.Tick, .int .i64 x1.Guest, .string x1.Kind, .int .i64 x1.Value]) rfl (by kernel_rfl) (by kernel_rfl) (by kernel_rfl) (M16.blk 0 (b := b3) (o := .cells ⟨[.int .i64 x1.Tick, .int .i64 x1.Guest, .string x1.Kind, .int .i64 x1.Value]⟩ 23 (0, 0)) (by kernel_rfl))) ?_
  obtain ⟨r41, hr41, hm⟩ := gx_bind hm
  refine W_call 6 #[.agg #[.int .i64 x1.Tick, .int .i64 x1.Guest, .string x1.Kind, .int .i64 x1.Value]] (by kernel_rfl) (by kernel_rfl) ?_
  refine (c_l_toEvent w14 x1 hr41).mono ?_
  rintro e_ w42 ⟨rfl, K43⟩
  have M44 := M16.call0 K43
  refine ⟨_, rfl, ?_⟩
  obtain ⟨r280, hr280, hm⟩ := gx_bind hm
  refine W_call 5 #[.agg #[.int .i64 r41.Tick, .int .i64 r41.Guest, .string r41.Kind, .int .i64 r41.Value]] (by kernel_rfl) (by kernel_rfl) ?_
  refine (c_s_EventText w42 r41 hr280).mono ?_
  rintro e_ w281 ⟨rfl, K282⟩
  have M283 := M44.call0 K282
  refine ⟨_, rfl, ?_⟩
  refine W_run 5 [(1, .pointer (some ⟨b3, 0, none⟩)), (4, .string r280.1), (5, .bool r280.2)] w281 (by kernel_rfl) ?_
  refine W_nil ?_
  refine N_then ?_
  refine G_seq ?_
  refine G_region ?_
  refine W_val (.agg #[.int .i64 x1.Tick, .int .i64 x1.Guest, .string x1.Kind, .int .i64 x1.Value]) w281 (by kernel_rfl) (E_load (e := 23) (fr := (0, 0)) _ _ true 4 b3 0 [.int .i64 x1.Tick, .int .i64 x1.Guest, .string x1.Kind, .int .i64 x1.Value] (.agg #[.int .i64 x1.Tick, .int .i64 x1.Guest, .string x1.Kind, .int .i64 x1.Value]) rfl (by kernel_rfl) (by kernel_rfl) (by kernel_rfl) (M283.blk 0 (b := b3) (o := .cells ⟨[.int .i64 x1.Tick, .int .i64 x1.Guest, .string x1.Kind, .int .i64 x1.Value]⟩ 23 (0, 0)) (by kernel_rfl))) ?_
  obtain ⟨r284, hr284, hm⟩ := gx_bind hm
  refine W_call 6 #[.agg #[.int .i64 x1.Tick, .int .i64 x1.Guest, .string x1.Kind, .int .i64 x1.Value]] (by kernel_rfl) (by kernel_rfl) ?_
  refine (c_l_toEvent w281 x1 hr284).mono ?_
  rintro e_ w285 ⟨rfl, K286⟩
  have M287 := M283.call0 K286
  refine ⟨_, rfl, ?_⟩
  obtain ⟨r518, hr518, hm⟩ := gx_bind hm
  refine W_call 7 #[.agg #[.int .i64 r284.Tick, .int .i64 r284.Guest, .string r284.Kind, .int .i64 r284.Value]] (by kernel_rfl) (by kernel_rfl) ?_
  refine (c_i_EventText w285 r284 (TabM ht_ M287) hr518).mono ?_
  rintro e_ w519 ⟨rfl, K520⟩
  have M521 := M287.call0 K520
  refine ⟨_, rfl, ?_⟩
  refine W_run 5 [(4, .string r280.1), (5, .bool r280.2), (6, .string r518.1), (7, .bool r518.2)] w519 (by kernel_rfl) ?_
  refine W_nil ?_
  refine N_then ?_
  refine G_seq ?_
  refine G_seq ?_
  obtain ⟨o523, ho524, hm525⟩ := gx_bind hm
  refine G_meet (fun a w' => Mem [] w w' [] ∧ Sat Tryd.f3.ntmps [(32, .bool o523)] a) ?_ ?_
  · have hm := ho524
    refine G_region ?_
    refine W_run 4 [(5, .bool r280.2), (7, .bool r518.2), (28, .bool (!(r518.1.toList == r280.1.toList)))] w519 (by kernel_rfl) ?_
    rcases gx_bif hm with ⟨hc526, hm⟩ | ⟨hc526, hm⟩
    · refine W_known 28 true (by kernel_rfl) hc526 ?_
      refine W_run 4 [(32, .bool true)] w519 (by kernel_rfl) ?_
      refine W_nil ?_
      obtain rfl := Option.some.inj hm
      exact N_meet fun a ha => ⟨M521.pick [] (by kernel_rfl), ha.sub (by kernel_rfl)⟩
    refine W_known 28 false (by kernel_rfl) hc526 ?_
    refine W_run 4 [(32, .bool (!(r518.2 == r280.2)))] w519 (by kernel_rfl) ?_
    refine W_nil ?_
    obtain rfl := Option.some.inj hm
    exact N_meet fun a ha => ⟨M521.pick [] (by kernel_rfl), ha.sub (by kernel_rfl)⟩
  intro a529 w527 ⟨M528, hS530⟩
  refine N_use hS530 ?_
  have hm := hm525
  refine N_then ?_
  rcases gx_bif hm with ⟨hc531, hm⟩ | ⟨hc531, hm⟩
  · refine G_cond_t (b := o523) hc531 (by kernel_rfl) ?_
    refine G_seq ?_
    refine G_region ?_
    refine W_run 1 [(2, .bool false)] w527 (by kernel_rfl) ?_
    refine W_nil ?_
    refine N_then ?_
    refine G_ret ?_
    refine N_then_ret ?_
    obtain rfl := Option.some.inj hm
    refine N_ret [.bool false] (RVs_cons (RV_tmp (by kernel_rfl)) RVs_nil) ?_
    exact ⟨rfl, M528.pick [] (by kernel_rfl)⟩
  refine G_cond_f (b := o523) hc531 (by kernel_rfl) ?_
  refine G_skip ?_
  refine N_then ?_
  refine G_seq ?_
  refine G_region ?_
  refine W_run 1 [(2, .bool true)] w527 (by kernel_rfl) ?_
  refine W_nil ?_
  refine N_then ?_
  refine G_ret ?_
  obtain rfl := Option.some.inj hm
  refine N_ret [.bool true] (RVs_cons (RV_tmp (by kernel_rfl)) RVs_nil) ?_
  exact ⟨rfl, M528.pick [] (by kernel_rfl)⟩
end Go.Proofs.YtehekeaoeopchaaDoor
