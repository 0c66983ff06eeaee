/- The walks, printed by program: whenever the model gives r, the call returns r. Part 1. -/
import Derived.Test.YtfcebglkdfadcaaKM
import Derived.Test.YtfcebglkdfadcaaProg
import Derived.Test.YtfcebglkdfadcaaSh
set_option linter.unusedVariables false
set_option maxRecDepth 100000
set_option maxHeartbeats 4000000
namespace Go.Proofs.Ytfcebglkdfadcaa
open Go.Gx
theorem c_l_szEvent (w : World) (x15 : Event) (x16 : Int) {r : Int} (hm : M.l_szEvent x15 x16 = some r) :
    Calls Try.prog 13 #[.agg #[.int .i64 x15.Tick, .int .i64 x15.Guest, .string x15.Kind, .int .i64 x15.Value], .int .i64 x16] w fun e w' => e = .returned (.int .i64 r) ∧ Mem [] w w' [] := by
  unfold M.l_szEvent at hm
  refine C_enter Try.func13 rfl (by kernel_rfl) ?_
  have M0 := Mem.refl [] w
  refine G_seq ?_
  refine G_region ?_
  refine W_new (fun b => .pointer (some ⟨b, 0, none⟩)) (.cells ⟨[.int .i64 x15.Tick, .int .i64 x15.Guest, .string x15.Kind, .int .i64 x15.Value]⟩ 23 (0, 0)) M0 rfl (by kernel_rfl) (by kernel_rfl) ?_
  intro b18 w19 M20
  refine W_run 1 [(1, .int .i64 x16), (2, .pointer (some ⟨b18, 0, none⟩))] w19 (by kernel_rfl) ?_
  refine W_nil ?_
  refine N_then ?_
  refine G_seq ?_
  refine G_region ?_
  refine W_run 2 [(1, .int .i64 x16), (5, .int .i64 x16), (6, .pointer (some ⟨b18, 2, none⟩))] w19 (by kernel_rfl) ?_
  refine W_val (.string x15.Kind) w19 (by kernel_rfl) (E_load (e := 23) (fr := (0, 0)) _ _ false 1 b18 2 [.int .i64 x15.Tick, .int .i64 x15.Guest, .string x15.Kind, .int .i64 x15.Value] (.string x15.Kind) rfl (by kernel_rfl) (by kernel_rfl) (by kernel_rfl) (M20.blk 0 (b := b18) (o := .cells ⟨[.int .i64 x15.Tick, .int .i64 x15.Guest, .string x15.Kind, .int .i64 x15.Value]⟩ 23 (0, 0)) (by kernel_rfl))) ?_
  refine W_run 3 [(1, .int .i64 (w64 (x16 - (x15.Kind.size : Int))))] w19 (by kernel_rfl) ?_
  refine W_nil ?_
  refine N_then ?_
  refine G_seq ?_
  refine G_seq ?_
  refine G_region ?_
  refine W_run 2 [(1, .int .i64 (w64 (x16 - (x15.Kind.size : Int)))), (11, .bool (decide ((w64 (x16 - (x15.Kind.size : Int))) < 0)))] w19 (by kernel_rfl) ?_
  refine W_nil ?_
  refine N_then ?_
  rcases gx_bif hm with ⟨hc21, hm⟩ | ⟨hc21, hm⟩
  · refine G_cond_t (b := (decide ((w64 (x16 - (x15.Kind.size : Int))) < 0))) hc21 (by kernel_rfl) ?_
    refine G_seq ?_
    refine G_region ?_
    refine W_run 1 [(4, .int .i64 (-1))] w19 (by kernel_rfl) ?_
    refine W_nil ?_
    refine N_then ?_
    refine G_ret ?_
    refine N_then_ret ?_
    obtain rfl := Option.some.inj hm
    refine N_ret [.int .i64 (-1)] (RVs_cons (RV_tmp (by kernel_rfl)) RVs_nil) ?_
    exact ⟨rfl, M20.pick [] (by kernel_rfl)⟩
  · refine G_cond_f (b := (decide ((w64 (x16 - (x15.Kind.size : Int))) < 0))) hc21 (by kernel_rfl) ?_
    refine G_skip ?_
    refine N_then ?_
    refine G_seq ?_
    refine G_region ?_
    refine W_run 2 [(4, .int .i64 (w64 (x16 - (x15.Kind.size : Int))))] w19 (by kernel_rfl) ?_
    refine W_nil ?_
    refine N_then ?_
    refine G_ret ?_
    obtain rfl := Option.some.inj hm
    refine N_ret [.int .i64 (w64 (x16 - (x15.Kind.size : Int)))] (RVs_cons (RV_tmp (by kernel_rfl)) RVs_nil) ?_
    exact ⟨rfl, M20.pick [] (by kernel_rfl)⟩
theorem c_l_szEventS (w : World) (x6 : List Event) (p8 : Option Addr) (c9 : Nat) (h10 : rdS encEvent w x6 p8 c9) (x11 : Int) {r : Int} (hm : M.l_szEventS x6 x11 = some r) :
    Calls Try.prog 17 #[.slice p8 x6.length c9, .int .i64 x11] w fun e w' => e = .returned (.int .i64 r) ∧ Mem [] w w' [] := by
  unfold M.l_szEventS at hm
  refine C_enter Try.func17 rfl (by kernel_rfl) ?_
  have M0 := Mem.refl [] w
  refine G_seq ?_
  refine G_region ?_
  refine W_run 1 [(0, .slice p8 x6.length c9), (1, .int .i64 x11)] w (by kernel_rfl) ?_
  refine W_nil ?_
  refine N_then ?_
  refine G_seq ?_
  refine G_region ?_
  refine W_run 5 [(0, .slice p8 x6.length c9), (1, .int .i64 (w64 (x11 - (x6.length : Int))))] w (by kernel_rfl) ?_
  refine W_nil ?_
  refine N_then ?_
  refine G_seq ?_
  refine G_seq ?_
  refine G_region ?_
  refine W_run 2 [(0, .slice p8 x6.length c9), (1, .int .i64 (w64 (x11 - (x6.length : Int)))), (11, .bool (decide ((w64 (x11 - (x6.length : Int))) < 0)))] w (by kernel_rfl) ?_
  refine W_nil ?_
  refine N_then ?_
  rcases gx_bif hm with ⟨hc12, hm⟩ | ⟨hc12, hm⟩
  · refine G_cond_t (b := (decide ((w64 (x11 - (x6.length : Int))) < 0))) hc12 (by kernel_rfl) ?_
    refine G_seq ?_
    refine G_region ?_
    refine W_run 1 [(4, .int .i64 (-1))] w (by kernel_rfl) ?_
    refine W_nil ?_
    refine N_then ?_
    refine G_ret ?_
    refine N_then_ret ?_
    obtain rfl := Option.some.inj hm
    refine N_ret [.int .i64 (-1)] (RVs_cons (RV_tmp (by kernel_rfl)) RVs_nil) ?_
    exact ⟨rfl, M0.pick [] (by kernel_rfl)⟩
  · refine G_cond_f (b := (decide ((w64 (x11 - (x6.length : Int))) < 0))) hc12 (by kernel_rfl) ?_
    refine G_skip ?_
    refine N_then ?_
    refine G_seq ?_
    refine G_seq ?_
    refine G_region ?_
    refine W_run 1 [(0, .slice p8 x6.length c9), (1, .int .i64 (w64 (x11 - (x6.length : Int)))), (5, .int .i64 0)] w (by kernel_rfl) ?_
    refine W_nil ?_
    refine N_then ?_
    obtain ⟨out41, hw42, hmo43⟩ := gx_bind hm
    refine G_meet (fun a w' => ∃ (o44 : Int), out41 = .inl o44 ∧ Mem [] w w' [] ∧ Sat Try.f17.ntmps [(1, .int .i64 o44)] a) ?_ ?_
    · refine G_block ?_
      refine G_while (σ := Int × Int) (ρ := (Int) ⊕ (Int)) (fun s34 a w' => Mem [] w w' [] ∧ Sat Try.f17.ntmps [(0, .slice p8 x6.length c9), (1, .int .i64 s34.1), (5, .int .i64 s34.2)] a) hw42 (fun a ha => ⟨M0.pick [] (by kernel_rfl), ha.sub (by kernel_rfl)⟩) ?_
      clear hm
      intro s34 x35 hm hout36 a37 w38 ⟨M39, hS40⟩
      refine G_use hS40 ?_
      refine G_seq ?_
      refine G_seq ?_
      refine G_region ?_
      refine W_run 4 [(0, .slice p8 x6.length c9), (1, .int .i64 s34.1), (5, .int .i64 s34.2), (15, .bool (decide (s34.2 < (x6.length : Int))))] w38 (by kernel_rfl) ?_
      refine W_nil ?_
      refine N_then ?_
      rcases gx_bif hm with ⟨hc45, hm⟩ | ⟨hc45, hm⟩
      · refine G_cond_t (b := (decide (s34.2 < (x6.length : Int)))) hc45 (by kernel_rfl) ?_
        refine G_skip ?_
        refine N_then ?_
        refine G_seq ?_
        refine G_block ?_
        refine G_seq ?_
        refine G_region ?_
        refine W_run 2 [(0, .slice p8 x6.length c9), (1, .int .i64 s34.1), (5, .int .i64 s34.2), (18, .slice p8 x6.length c9), (19, .int .i64 s34.2)] w38 (by kernel_rfl) ?_
        obtain ⟨y46, hy46, hm⟩ := gx_bind hm
        refine W_val (elemP p8 (s34.2.toNat * 4)) w38 (by kernel_rfl) (E_index (E := encEvent) _ _ _ x6.length c9 .i64 s34.2 4 (y := y46) rfl (by kernel_rfl) (by kernel_rfl) (by kernel_rfl) (h10.mem0 M39) rfl hy46) ?_
        refine W_val (.agg #[.int .i64 y46.Tick, .int .i64 y46.Guest, .string y46.Kind, .int .i64 y46.Value]) w38 (by kernel_rfl) (E_loadE (E := encEvent) _ _ true 4 s34.2 0 (s34.2.toNat * 4) y46 (.agg #[.int .i64 y46.Tick, .int .i64 y46.Guest, .string y46.Kind, .int .i64 y46.Value]) rfl (by kernel_rfl) (by kernel_rfl) (by kernel_rfl) (h10.mem0 M39) hy46 rfl) ?_
        refine W_run 1 [(0, .slice p8 x6.length c9), (1, .int .i64 s34.1), (5, .int .i64 s34.2), (21, .agg #[.int .i64 y46.Tick, .int .i64 y46.Guest, .string y46.Kind, .int .i64 y46.Value]), (22, .int .i64 s34.1)] w38 (by kernel_rfl) ?_
        obtain ⟨r47, hr47, hm⟩ := gx_bind hm
        refine W_call 13 #[.agg #[.int .i64 y46.Tick, .int .i64 y46.Guest, .string y46.Kind, .int .i64 y46.Value], .int .i64 s34.1] (by kernel_rfl) (by kernel_rfl) ?_
        refine (c_l_szEvent w38 y46 s34.1 hr47).mono ?_
        rintro e_ w48 ⟨rfl, K49⟩
        have M50 := M39.call0 K49
        refine ⟨_, rfl, ?_⟩
        refine W_run 1 [(0, .slice p8 x6.length c9), (1, .int .i64 r47), (5, .int .i64 s34.2)] w48 (by kernel_rfl) ?_
        refine W_nil ?_
        refine N_then ?_
        refine G_seq ?_
        refine G_region ?_
        refine W_run 2 [(0, .slice p8 x6.length c9), (1, .int .i64 r47), (5, .int .i64 s34.2), (25, .bool (decide (r47 < 0)))] w48 (by kernel_rfl) ?_
        refine W_nil ?_
        refine N_then ?_
        rcases gx_bif hm with ⟨hc51, hm⟩ | ⟨hc51, hm⟩
        · refine G_cond_t (b := (decide (r47 < 0))) hc51 (by kernel_rfl) ?_
          refine G_seq ?_
          refine G_region ?_
          refine W_run 1 [(4, .int .i64 (-1))] w48 (by kernel_rfl) ?_
          refine W_nil ?_
          refine N_then ?_
          refine G_ret ?_
          refine N_block_ret ?_
          refine N_then_ret ?_
          refine N_then_ret ?_
          obtain rfl := Option.some.inj hm
          obtain rfl := hout36 _ rfl
          have hm := hmo43; simp only [Sum.elim_inr] at hm
          refine N_block_ret ?_
          refine N_meet_ret ?_
          refine N_then_ret ?_
          obtain rfl := Option.some.inj hm
          refine N_ret [.int .i64 (-1)] (RVs_cons (RV_tmp (by kernel_rfl)) RVs_nil) ?_
          exact ⟨rfl, M50.pick [] (by kernel_rfl)⟩
        · refine G_cond_f (b := (decide (r47 < 0))) hc51 (by kernel_rfl) ?_
          refine G_skip ?_
          refine N_block ?_
          refine N_then ?_
          refine G_region ?_
          refine W_run 3 [(0, .slice p8 x6.length c9), (1, .int .i64 r47), (5, .int .i64 (w64 (s34.2 + 1)))] w48 (by kernel_rfl) ?_
          refine W_nil ?_
          obtain rfl := Option.some.inj hm
          exact N_loop fun a ha => ⟨_, rfl, M50.pick [] (by kernel_rfl), ha.sub (by kernel_rfl)⟩
      · refine G_cond_f (b := (decide (s34.2 < (x6.length : Int)))) hc45 (by kernel_rfl) ?_
        refine G_exit ?_
        refine N_then_exit ?_
        refine N_then_exit ?_
        refine N_block_eq ?_
        obtain rfl := Option.some.inj hm
        obtain rfl := hout36 _ rfl
        exact N_meet fun a ha => ⟨_, rfl, M39.pick [] (by kernel_rfl), ha.sub (by kernel_rfl)⟩
    · intro a52 w53 ⟨o44, hout_, M54, hS55⟩
      refine N_use hS55 ?_
      subst hout_
      have hm := hmo43; simp only [Sum.elim_inl] at hm
      refine N_then ?_
      refine G_seq ?_
      refine G_region ?_
      refine W_run 2 [(4, .int .i64 o44)] w53 (by kernel_rfl) ?_
      refine W_nil ?_
      refine N_then ?_
      refine G_ret ?_
      obtain rfl := Option.some.inj hm
      refine N_ret [.int .i64 o44] (RVs_cons (RV_tmp (by kernel_rfl)) RVs_nil) ?_
      exact ⟨rfl, M54.pick [] (by kernel_rfl)⟩
theorem c_l_toEvent (w : World) (x81 : Event) {r : Event} (hm : M.l_toEvent x81 = some r) :
    Calls Try.prog 15 #[.agg #[.int .i64 x81.Tick, .int .i64 x81.Guest, .string x81.Kind, .int .i64 x81.Value]] w fun e w' => e = .returned (.agg #[.int .i64 r.Tick, .int .i64 r.Guest, .string r.Kind, .int .i64 r.Value]) ∧ Mem [] w w' [] := by
  unfold M.l_toEvent at hm
  refine C_enter Try.func15 rfl (by kernel_rfl) ?_
  have M0 := Mem.refl [] w
  refine G_seq ?_
  refine G_region ?_
  refine W_new (fun b => .pointer (some ⟨b, 0, none⟩)) (.cells ⟨[.int .i64 x81.Tick, .int .i64 x81.Guest, .string x81.Kind, .int .i64 x81.Value]⟩ 23 (0, 0)) M0 rfl (by kernel_rfl) (by kernel_rfl) ?_
  intro b83 w84 M85
  refine W_new (fun b => .pointer (some ⟨b, 0, none⟩)) (.cells ⟨[.int .i64 0, .int .i64 0, .string ByteArray.empty, .int .i64 0]⟩ 26 (0, 0)) M85 rfl (by kernel_rfl) (by kernel_rfl) ?_
  intro b87 w88 M89
  refine W_nil ?_
  refine N_then ?_
  refine G_seq ?_
  refine G_region ?_
  refine W_new (fun b => .pointer (some ⟨b, 0, none⟩)) (.cells ⟨[.int .i64 0, .int .i64 0, .string ByteArray.empty, .int .i64 0]⟩ 26 (0, 0)) M89 rfl (by kernel_rfl) (by kernel_rfl) ?_
  intro b91 w92 M93
  refine W_nil ?_
  refine N_then ?_
  refine G_seq ?_
  refine G_region ?_
  refine W_run 1 [(1, .pointer (some ⟨b83, 0, none⟩)), (2, .pointer (some ⟨b87, 0, none⟩)), (3, .pointer (some ⟨b91, 0, none⟩)), (4, .pointer (some ⟨b83, 0, none⟩))] w92 (by kernel_rfl) ?_
  refine W_val (.int .i64 x81.Tick) w92 (by kernel_rfl) (E_load (e := 23) (fr := (0, 0)) _ _ false 1 b83 0 [.int .i64 x81.Tick, .int .i64 x81.Guest, .string x81.Kind, .int .i64 x81.Value] (.int .i64 x81.Tick) rfl (by kernel_rfl) (by kernel_rfl) (by kernel_rfl) (M93.blk 0 (b := b83) (o := .cells ⟨[.int .i64 x81.Tick, .int .i64 x81.Guest, .string x81.Kind, .int .i64 x81.Value]⟩ 23 (0, 0)) (by kernel_rfl))) ?_
  refine W_run 1 [(1, .pointer (some ⟨b83, 0, none⟩)), (2, .pointer (some ⟨b87, 0, none⟩)), (3, .pointer (some ⟨b91, 0, none⟩)), (5, .int .i64 x81.Tick), (6, .pointer (some ⟨b91, 0, none⟩))] w92 (by kernel_rfl) ?_
  refine W_store _ _ _ false 1 b91 0 [.int .i64 0, .int .i64 0, .string ByteArray.empty, .int .i64 0] 26 (.int .i64 x81.Tick) 2 [.int .i64 x81.Tick, .int .i64 0, .string ByteArray.empty, .int .i64 0] M93 (by kernel_rfl) rfl (by kernel_rfl) (by kernel_rfl) (by kernel_rfl) (by kernel_rfl) (by kernel_rfl) (by kernel_rfl) (by kernel_rfl) (by kernel_rfl) ?_
  intro w94 M95
  refine W_nil ?_
  refine N_then ?_
  refine G_seq ?_
  refine G_region ?_
  refine W_run 1 [(1, .pointer (some ⟨b83, 0, none⟩)), (2, .pointer (some ⟨b87, 0, none⟩)), (3, .pointer (some ⟨b91, 0, none⟩)), (7, .pointer (some ⟨b83, 1, none⟩))] w94 (by kernel_rfl) ?_
  refine W_val (.int .i64 x81.Guest) w94 (by kernel_rfl) (E_load (e := 23) (fr := (0, 0)) _ _ false 1 b83 1 [.int .i64 x81.Tick, .int .i64 x81.Guest, .string x81.Kind, .int .i64 x81.Value] (.int .i64 x81.Guest) rfl (by kernel_rfl) (by kernel_rfl) (by kernel_rfl) (M95.blk 0 (b := b83) (o := .cells ⟨[.int .i64 x81.Tick, .int .i64 x81.Guest, .string x81.Kind, .int .i64 x81.Value]⟩ 23 (0, 0)) (by kernel_rfl))) ?_
  refine W_run 1 [(1, .pointer (some ⟨b83, 0, none⟩)), (2, .pointer (some ⟨b87, 0, none⟩)), (3, .pointer (some ⟨b91, 0, none⟩)), (8, .int .i64 x81.Guest), (9, .pointer (some ⟨b91, 1, none⟩))] w94 (by kernel_rfl) ?_
  refine W_store _ _ _ false 1 b91 1 [.int .i64 x81.Tick, .int .i64 0, .string ByteArray.empty, .int .i64 0] 26 (.int .i64 x81.Guest) 2 [.int .i64 x81.Tick, .int .i64 x81.Guest, .string ByteArray.empty, .int .i64 0] M95 (by kernel_rfl) rfl (by kernel_rfl) (by kernel_rfl) (by kernel_rfl) (by kernel_rfl) (by kernel_rfl) (by kernel_rfl) (by kernel_rfl) (by kernel_rfl) ?_
  intro w96 M97
  refine W_nil ?_
  refine N_then ?_
  refine G_seq ?_
  refine G_region ?_
  refine W_run 1 [(1, .pointer (some ⟨b83, 0, none⟩)), (2, .pointer (some ⟨b87, 0, none⟩)), (3, .pointer (some ⟨b91, 0, none⟩)), (10, .pointer (some ⟨b83, 2, none⟩))] w96 (by kernel_rfl) ?_
  refine W_val (.string x81.Kind) w96 (by kernel_rfl) (E_load (e := 23) (fr := (0, 0)) _ _ false 1 b83 2 [.int .i64 x81.Tick, .int .i64 x81.Guest, .string x81.Kind, .int .i64 x81.Value] (.string x81.Kind) rfl (by kernel_rfl) (by kernel_rfl) (by kernel_rfl) (M97.blk 0 (b := b83) (o := .cells ⟨[.int .i64 x81.Tick, .int .i64 x81.Guest, .string x81.Kind, .int .i64 x81.Value]⟩ 23 (0, 0)) (by kernel_rfl))) ?_
  refine W_run 1 [(1, .pointer (some ⟨b83, 0, none⟩)), (2, .pointer (some ⟨b87, 0, none⟩)), (3, .pointer (some ⟨b91, 0, none⟩)), (11, .string x81.Kind), (12, .pointer (some ⟨b91, 2, none⟩))] w96 (by kernel_rfl) ?_
  refine W_store _ _ _ false 1 b91 2 [.int .i64 x81.Tick, .int .i64 x81.Guest, .string ByteArray.empty, .int .i64 0] 26 (.string x81.Kind) 2 [.int .i64 x81.Tick, .int .i64 x81.Guest, .string x81.Kind, .int .i64 0] M97 (by kernel_rfl) rfl (by kernel_rfl) (by kernel_rfl) (by kernel_rfl) (by kernel_rfl) (by kernel_rfl) (by kernel_rfl) (by kernel_rfl) (by kernel_rfl) ?_
  intro w98 M99
  refine W_nil ?_
  refine N_then ?_
  refine G_seq ?_
  refine G_region ?_
  refine W_run 1 [(2, .pointer (some ⟨b87, 0, none⟩)), (3, .pointer (some ⟨b91, 0, none⟩)), (13, .pointer (some ⟨b83, 3, none⟩))] w98 (by kernel_rfl) ?_
  refine W_val (.int .i64 x81.Value) w98 (by kernel_rfl) (E_load (e := 23) (fr := (0, 0)) _ _ false 1 b83 3 [.int .i64 x81.Tick, .int .i64 x81.Guest, .string x81.Kind, .int .i64 x81.Value] (.int .i64 x81.Value) rfl (by kernel_rfl) (by kernel_rfl) (by kernel_rfl) (M99.blk 0 (b := b83) (o := .cells ⟨[.int .i64 x81.Tick, .int .i64 x81.Guest, .string x81.Kind, .int .i64 x81.Value]⟩ 23 (0, 0)) (by kernel_rfl))) ?_
  refine W_run 1 [(2, .pointer (some ⟨b87, 0, none⟩)), (3, .pointer (some ⟨b91, 0, none⟩)), (14, .int .i64 x81.Value), (15, .pointer (some ⟨b91, 3, none⟩))] w98 (by kernel_rfl) ?_
  refine W_store _ _ _ false 1 b91 3 [.int .i64 x81.Tick, .int .i64 x81.Guest, .string x81.Kind, .int .i64 0] 26 (.int .i64 x81.Value) 2 [.int .i64 x81.Tick, .int .i64 x81.Guest, .string x81.Kind, .int .i64 x81.Value] M99 (by kernel_rfl) rfl (by kernel_rfl) (by kernel_rfl) (by kernel_rfl) (by kernel_rfl) (by kernel_rfl) (by kernel_rfl) (by kernel_rfl) (by kernel_rfl) ?_
  intro w100 M101
  refine W_nil ?_
  refine N_then ?_
  refine G_seq ?_
  refine G_region ?_
  refine W_val (.agg #[.int .i64 x81.Tick, .int .i64 x81.Guest, .string x81.Kind, .int .i64 x81.Value]) w100 (by kernel_rfl) (E_load (e := 26) (fr := (0, 0)) _ _ true 4 b91 0 [.int .i64 x81.Tick, .int .i64 x81.Guest, .string x81.Kind, .int .i64 x81.Value] (.agg #[.int .i64 x81.Tick, .int .i64 x81.Guest, .string x81.Kind, .int .i64 x81.Value]) rfl (by kernel_rfl) (by kernel_rfl) (by kernel_rfl) (M101.blk 2 (b := b91) (o := .cells ⟨[.int .i64 x81.Tick, .int .i64 x81.Guest, .string x81.Kind, .int .i64 x81.Value]⟩ 26 (0, 0)) (by kernel_rfl))) ?_
  refine W_store _ _ _ true 4 b87 0 [.int .i64 0, .int .i64 0, .string ByteArray.empty, .int .i64 0] 26 (.agg #[.int .i64 x81.Tick, .int .i64 x81.Guest, .string x81.Kind, .int .i64 x81.Value]) 1 [.int .i64 x81.Tick, .int .i64 x81.Guest, .string x81.Kind, .int .i64 x81.Value] M101 (by kernel_rfl) rfl (by kernel_rfl) (by kernel_rfl) (by kernel_rfl) (by kernel_rfl) (by kernel_rfl) (by kernel_rfl) (by kernel_rfl) (by kernel_rfl) ?_
  intro w102 M103
  refine W_nil ?_
  refine N_then ?_
  refine G_ret ?_
  obtain rfl := Option.some.inj hm
  refine N_ret [.agg #[.int .i64 x81.Tick, .int .i64 x81.Guest, .string x81.Kind, .int .i64 x81.Value]] (RVs_cons (RV_cell (g := true) (k := 4) (b := b87) (off := 0) (cs := [.int .i64 x81.Tick, .int .i64 x81.Guest, .string x81.Kind, .int .i64 x81.Value]) (e := 26) (fr := (0, 0)) (v := .agg #[.int .i64 x81.Tick, .int .i64 x81.Guest, .string x81.Kind, .int .i64 x81.Value]) (M103.blk 1 (b := b87) (o := .cells ⟨[.int .i64 x81.Tick, .int .i64 x81.Guest, .string x81.Kind, .int .i64 x81.Value]⟩ 26 (0, 0)) (by kernel_rfl)) (by kernel_rfl) (by kernel_rfl) (by kernel_rfl)) RVs_nil) ?_
  exact ⟨rfl, M103.pick [] (by kernel_rfl)⟩
theorem c_l_toEventS (w : World) (x61 : List Event) (p63 : Option Addr) (c64 : Nat) (h65 : rdS encEvent w x61 p63 c64) {r : (List Event)} (hm : M.l_toEventS x61 = some r) :
    Calls Try.prog 19 #[.slice p63 x61.length c64] w fun e w' => ∃ (p67 : Option Addr) (c68 : Nat) (sg69 : Seg), e = .returned (.slice p67 r.length c68) ∧ ownS encEvent r p67 c68 sg69 ∧ Mem [] w w' [sg69] := by
  unfold M.l_toEventS at hm
  refine C_enter Try.func19 rfl (by kernel_rfl) ?_
  have M0 := Mem.refl [] w
  refine G_seq ?_
  refine G_region ?_
  refine W_run 1 [(0, .slice p63 x61.length c64)] w (by kernel_rfl) ?_
  refine W_nil ?_
  refine N_then ?_
  refine G_seq ?_
  refine G_region ?_
  refine W_run 2 [(0, .slice p63 x61.length c64), (6, .int .i64 (x61.length : Int))] w (by kernel_rfl) ?_
  obtain ⟨mk71, hmk71, hm⟩ := gx_bind hm
  refine W_make (E := encEvent) _ _ _ (x61.length : Int) 40 [.int .i64 0, .int .i64 0, .string ByteArray.empty, .int .i64 0] ((⟨0, 0, ByteArray.empty, 0⟩ : Event) : Event) M0 (by kernel_rfl) rfl (by kernel_rfl) (by kernel_rfl) (by kernel_rfl) (by kernel_rfl) (by kernel_rfl) hmk71 ?_
  intro p72 c73 sg74 w75 ho76 M77
  refine W_run 1 [(0, .slice p63 x61.length c64), (3, .slice p72 mk71.length c73)] w75 (by kernel_rfl) ?_
  refine W_nil ?_
  refine N_then ?_
  refine G_seq ?_
  refine G_seq ?_
  refine G_region ?_
  refine W_run 1 [(0, .slice p63 x61.length c64), (3, .slice p72 mk71.length c73), (4, .int .i64 0)] w75 (by kernel_rfl) ?_
  refine W_nil ?_
  refine N_then ?_
  obtain ⟨out133, hw134, hmo135⟩ := gx_bind hm
  refine G_meet (fun a w' => ∃ (sg139 : Seg), ownS encEvent out133 p72 c73 sg139 ∧ Mem [] w w' [sg139] ∧ Sat Try.f19.ntmps [(3, .slice p72 out133.length c73)] a) ?_ ?_
  · refine G_block ?_
    refine G_while (σ := Int × List Event) (ρ := List Event) (fun s126 a w' => ∃ (sg136 : Seg), ownS encEvent s126.2 p72 c73 sg136 ∧ Mem [] w w' [sg136] ∧ Sat Try.f19.ntmps [(0, .slice p63 x61.length c64), (3, .slice p72 s126.2.length c73), (4, .int .i64 s126.1)] a) hw134 (fun a ha => ⟨sg74, ho76, M77.pick [0] (by kernel_rfl), ha.sub (by kernel_rfl)⟩) ?_
    clear hm
    intro s126 x127 hm hout128 a129 w130 ⟨sg136, ho137, M131, hS132⟩
    refine G_use hS132 ?_
    refine G_seq ?_
    refine G_seq ?_
    refine G_region ?_
    refine W_run 4 [(0, .slice p63 x61.length c64), (3, .slice p72 s126.2.length c73), (4, .int .i64 s126.1), (11, .bool (decide (s126.1 < (x61.length : Int))))] w130 (by kernel_rfl) ?_
    refine W_nil ?_
    refine N_then ?_
    rcases gx_bif hm with ⟨hc141, hm⟩ | ⟨hc141, hm⟩
    · refine G_cond_t (b := (decide (s126.1 < (x61.length : Int)))) hc141 (by kernel_rfl) ?_
      refine G_skip ?_
      refine N_then ?_
      refine G_seq ?_
      refine G_block ?_
      refine G_region ?_
      refine W_run 4 [(0, .slice p63 x61.length c64), (3, .slice p72 s126.2.length c73), (4, .int .i64 s126.1), (14, .slice p72 s126.2.length c73), (15, .int .i64 s126.1), (16, .slice p63 x61.length c64), (17, .int .i64 s126.1)] w130 (by kernel_rfl) ?_
      obtain ⟨y142, hy142, hm⟩ := gx_bind hm
      refine W_val (elemP p63 (s126.1.toNat * 4)) w130 (by kernel_rfl) (E_index (E := encEvent) _ _ _ x61.length c64 .i64 s126.1 4 (y := y142) rfl (by kernel_rfl) (by kernel_rfl) (by kernel_rfl) (h65.mem0 M131) rfl hy142) ?_
      refine W_val (.agg #[.int .i64 y142.Tick, .int .i64 y142.Guest, .string y142.Kind, .int .i64 y142.Value]) w130 (by kernel_rfl) (E_loadE (E := encEvent) _ _ true 4 s126.1 0 (s126.1.toNat * 4) y142 (.agg #[.int .i64 y142.Tick, .int .i64 y142.Guest, .string y142.Kind, .int .i64 y142.Value]) rfl (by kernel_rfl) (by kernel_rfl) (by kernel_rfl) (h65.mem0 M131) hy142 rfl) ?_
      obtain ⟨r143, hr143, hm⟩ := gx_bind hm
      refine W_call 15 #[.agg #[.int .i64 y142.Tick, .int .i64 y142.Guest, .string y142.Kind, .int .i64 y142.Value]] (by kernel_rfl) (by kernel_rfl) ?_
      refine (c_l_toEvent w130 y142 hr143).mono ?_
      rintro e_ w144 ⟨rfl, K145⟩
      have M146 := M131.call0 K145
      refine ⟨_, rfl, ?_⟩
      obtain ⟨y147, hy147, hm⟩ := gx_bind hm
      refine W_val (elemP p72 (s126.1.toNat * 4)) w144 (by kernel_rfl) (E_index (E := encEvent) _ _ _ s126.2.length c73 .i64 s126.1 4 (y := y147) rfl (by kernel_rfl) (by kernel_rfl) (by kernel_rfl) (ho137.rd M146 0 (by kernel_rfl)) rfl hy147) ?_
      refine W_storeE (E := encEvent) _ _ _ true 4 s126.1.toNat 0 (s126.1.toNat * 4) y147 r143 (.agg #[.int .i64 r143.Tick, .int .i64 r143.Guest, .string r143.Kind, .int .i64 r143.Value]) 0 M146 ho137 (by kernel_rfl) (by kernel_rfl) rfl (by kernel_rfl) (by kernel_rfl) (by kernel_rfl) (by kernel_rfl) (by kernel_rfl) (by kernel_rfl) (by kernel_rfl) (gxIdx_spec hy147).2 rfl ?_
      intro w148 sg150 ho151 M149
      refine W_conv 3 (.slice p72 s126.2.length c73) (.slice p72 (s126.2.set s126.1.toNat r143).length c73) (by kernel_rfl) (by rw [@List.length_set _ s126.2 s126.1.toNat r143]) ?_
      refine W_conv 14 (.slice p72 s126.2.length c73) (.slice p72 (s126.2.set s126.1.toNat r143).length c73) (by kernel_rfl) (by rw [@List.length_set _ s126.2 s126.1.toNat r143]) ?_
      refine W_nil ?_
      refine N_block ?_
      refine N_then ?_
      refine G_region ?_
      refine W_run 3 [(0, .slice p63 x61.length c64), (3, .slice p72 (s126.2.set s126.1.toNat r143).length c73), (4, .int .i64 (w64 (s126.1 + 1)))] w148 (by kernel_rfl) ?_
      refine W_nil ?_
      obtain rfl := Option.some.inj hm
      exact N_loop fun a ha => ⟨_, rfl, sg150, ho151, M149.pick [0] (by kernel_rfl), ha.sub (by kernel_rfl)⟩
    · refine G_cond_f (b := (decide (s126.1 < (x61.length : Int)))) hc141 (by kernel_rfl) ?_
      refine G_exit ?_
      refine N_then_exit ?_
      refine N_then_exit ?_
      refine N_block_eq ?_
      obtain rfl := Option.some.inj hm
      obtain rfl := hout128 _ rfl
      exact N_meet fun a ha => ⟨sg136, ho137, M131.pick [0] (by kernel_rfl), ha.sub (by kernel_rfl)⟩
  · intro a152 w153 ⟨sg139, ho140, M154, hS155⟩
    refine N_use hS155 ?_
    have hm := hmo135
    refine N_then ?_
    refine G_seq ?_
    refine G_region ?_
    refine W_run 2 [(2, .slice p72 out133.length c73)] w153 (by kernel_rfl) ?_
    refine W_nil ?_
    refine N_then ?_
    refine G_ret ?_
    obtain rfl := Option.some.inj hm
    refine N_ret [.slice p72 out133.length c73] (RVs_cons (RV_tmp (by kernel_rfl)) RVs_nil) ?_
    exact ⟨p72, c73, sg139, rfl, ho140, M154.pick [0] (by kernel_rfl)⟩
theorem c_s_l1In (w : World) (x207 : Int) (x208 : Int) (x209 : Int) {r : Bool} (hm : M.s_l1In x207 x208 x209 = some r) :
    Calls Try.prog 58 #[.int .i64 x207, .int .i64 x208, .int .i64 x209] w fun e w' => e = .returned (.bool r) ∧ Mem [] w w' [] := by
  unfold M.s_l1In at hm
  refine C_enter Try.func58 rfl (by kernel_rfl) ?_
  have M0 := Mem.refl [] w
  refine G_seq ?_
  refine G_region ?_
  refine W_run 1 [(0, .int .i64 x207), (1, .int .i64 x208), (2, .int .i64 x209)] w (by kernel_rfl) ?_
  refine W_nil ?_
  refine N_then ?_
  refine G_seq ?_
  obtain ⟨o211, ho212, hm213⟩ := gx_bind hm
  refine G_meet (fun a w' => Mem [] w w' [] ∧ Sat Try.f58.ntmps [(6, .bool o211)] a) ?_ ?_
  · have hm := ho212
    refine G_region ?_
    refine W_run 4 [(0, .int .i64 x207), (2, .int .i64 x209), (10, .bool (decide (x207 ≥ x208)))] w (by kernel_rfl) ?_
    rcases gx_bif hm with ⟨hc214, hm⟩ | ⟨hc214, hm⟩
    · refine W_known 10 true (by kernel_rfl) hc214 ?_
      refine W_run 5 [(6, .bool (decide (x207 ≤ x209)))] w (by kernel_rfl) ?_
      refine W_nil ?_
      obtain rfl := Option.some.inj hm
      exact N_meet fun a ha => ⟨M0.pick [] (by kernel_rfl), ha.sub (by kernel_rfl)⟩
    · refine W_known 10 false (by kernel_rfl) hc214 ?_
      refine W_run 5 [(6, .bool false)] w (by kernel_rfl) ?_
      refine W_nil ?_
      obtain rfl := Option.some.inj hm
      exact N_meet fun a ha => ⟨M0.pick [] (by kernel_rfl), ha.sub (by kernel_rfl)⟩
  · intro a217 w215 ⟨M216, hS218⟩
    refine N_use hS218 ?_
    have hm := hm213
    refine N_then ?_
    refine G_ret ?_
    obtain rfl := Option.some.inj hm
    refine N_ret [.bool o211] (RVs_cons (RV_tmp (by kernel_rfl)) RVs_nil) ?_
    exact ⟨rfl, M216.pick [] (by kernel_rfl)⟩
theorem c_s_l11Tick (w : World) (x206 : Int) {r : Bool} (hm : M.s_l11Tick x206 = some r) :
    Calls Try.prog 65 #[.int .i64 x206] w fun e w' => e = .returned (.bool r) ∧ Mem [] w w' [] := by
  unfold M.s_l11Tick at hm
  refine C_enter Try.func65 rfl (by kernel_rfl) ?_
  have M0 := Mem.refl [] w
  refine G_seq ?_
  refine G_region ?_
  refine W_run 1 [(0, .int .i64 x206)] w (by kernel_rfl) ?_
  refine W_nil ?_
  refine N_then ?_
  refine G_seq ?_
  refine G_region ?_
  refine W_run 1 [(3, .int .i64 x206)] w (by kernel_rfl) ?_
  obtain ⟨r219, hr219, hm⟩ := gx_bind hm
  refine W_call 58 #[.int .i64 x206, .int .i64 0, .int .i64 100000] (by kernel_rfl) (by kernel_rfl) ?_
  refine (c_s_l1In w x206 0 100000 hr219).mono ?_
  rintro e_ w220 ⟨rfl, K221⟩
  have M222 := M0.call0 K221
  refine ⟨_, rfl, ?_⟩
  refine W_run 1 [(2, .bool r219)] w220 (by kernel_rfl) ?_
  refine W_nil ?_
  refine N_then ?_
  refine G_ret ?_
  obtain rfl := Option.some.inj hm
  refine N_ret [.bool r219] (RVs_cons (RV_tmp (by kernel_rfl)) RVs_nil) ?_
  exact ⟨rfl, M222.pick [] (by kernel_rfl)⟩
theorem c_s_l22Guest (w : World) (x228 : Int) {r : Bool} (hm : M.s_l22Guest x228 = some r) :
    Calls Try.prog 61 #[.int .i64 x228] w fun e w' => e = .returned (.bool r) ∧ Mem [] w w' [] := by
  unfold M.s_l22Guest at hm
  refine C_enter Try.func61 rfl (by kernel_rfl) ?_
  have M0 := Mem.refl [] w
  refine G_seq ?_
  refine G_region ?_
  refine W_run 1 [(0, .int .i64 x228)] w (by kernel_rfl) ?_
  refine W_nil ?_
  refine N_then ?_
  refine G_seq ?_
  refine G_region ?_
  refine W_run 1 [(3, .int .i64 x228)] w (by kernel_rfl) ?_
  obtain ⟨r229, hr229, hm⟩ := gx_bind hm
  refine W_call 58 #[.int .i64 x228, .int .i64 0, .int .i64 4] (by kernel_rfl) (by kernel_rfl) ?_
  refine (c_s_l1In w x228 0 4 hr229).mono ?_
  rintro e_ w230 ⟨rfl, K231⟩
  have M232 := M0.call0 K231
  refine ⟨_, rfl, ?_⟩
  refine W_run 1 [(2, .bool r229)] w230 (by kernel_rfl) ?_
  refine W_nil ?_
  refine N_then ?_
  refine G_ret ?_
  obtain rfl := Option.some.inj hm
  refine N_ret [.bool r229] (RVs_cons (RV_tmp (by kernel_rfl)) RVs_nil) ?_
  exact ⟨rfl, M232.pick [] (by kernel_rfl)⟩
theorem c_s_l22Kind (w : World) (x238 : ByteArray) {r : Bool} (hm : M.s_l22Kind x238 = some r) :
    Calls Try.prog 79 #[.string x238] w fun e w' => e = .returned (.bool r) ∧ Mem [] w w' [] := by
  unfold M.s_l22Kind at hm
  refine C_enter Try.func79 rfl (by kernel_rfl) ?_
  have M0 := Mem.refl [] w
  refine G_seq ?_
  refine G_region ?_
  refine W_run 1 [(0, .string x238)] w (by kernel_rfl) ?_
  refine W_nil ?_
  refine N_then ?_
  refine G_seq ?_
  refine G_seq ?_
  refine G_region ?_
  refine W_run 1 [(0, .string x238), (3, .int .i64 0)] w (by kernel_rfl) ?_
  refine W_nil ?_
  refine N_then ?_
  obtain ⟨out276, hw277, hmo278⟩ := gx_bind hm
  refine G_meet (fun a w' => ∃ (o279 : Unit), out276 = .inl o279 ∧ Mem [] w w' [] ∧ Sat Try.f79.ntmps [(0, .string x238)] a) ?_ ?_
  · refine G_block ?_
    refine G_while (σ := Int) (ρ := (Unit) ⊕ (Bool)) (fun s269 a w' => Mem [] w w' [] ∧ Sat Try.f79.ntmps [(0, .string x238), (3, .int .i64 s269)] a) hw277 (fun a ha => ⟨M0.pick [] (by kernel_rfl), ha.sub (by kernel_rfl)⟩) ?_
    clear hm
    intro s269 x270 hm hout271 a272 w273 ⟨M274, hS275⟩
    refine G_use hS275 ?_
    refine G_seq ?_
    refine G_seq ?_
    refine G_region ?_
    refine W_run 4 [(0, .string x238), (3, .int .i64 s269), (7, .bool (decide (s269 < (x238.size : Int))))] w273 (by kernel_rfl) ?_
    refine W_nil ?_
    refine N_then ?_
    rcases gx_bif hm with ⟨hc280, hm⟩ | ⟨hc280, hm⟩
    · refine G_cond_t (b := (decide (s269 < (x238.size : Int)))) hc280 (by kernel_rfl) ?_
      refine G_skip ?_
      refine N_then ?_
      refine G_seq ?_
      refine G_block ?_
      refine G_seq ?_
      obtain ⟨o284, ho285, hm286⟩ := gx_bind hm
      refine G_meet (fun a w' => Mem [] w w' [] ∧ Sat Try.f79.ntmps [(0, .string x238), (3, .int .i64 s269), (19, .bool o284)] a) ?_ ?_
      · have hm := ho285
        refine G_region ?_
        refine W_run 2 [(0, .string x238), (3, .int .i64 s269), (10, .string x238), (11, .int .i64 s269)] w273 (by kernel_rfl) ?_
        obtain ⟨q287, hq287, hm⟩ := gx_bind hm
        refine W_val (.int .u8 q287) w273 (by kernel_rfl) (E_strIdx _ _ _ x238 .i64 s269 q287 rfl (by kernel_rfl) (by kernel_rfl) (by kernel_rfl) hq287) ?_
        refine W_run 2 [(0, .string x238), (3, .int .i64 s269), (14, .bool (decide (q287 < 97)))] w273 (by kernel_rfl) ?_
        rcases gx_bif hm with ⟨hc288, hm⟩ | ⟨hc288, hm⟩
        · refine W_known 14 true (by kernel_rfl) hc288 ?_
          refine W_run 5 [(0, .string x238), (3, .int .i64 s269), (19, .bool true)] w273 (by kernel_rfl) ?_
          refine W_nil ?_
          obtain rfl := Option.some.inj hm
          exact N_meet fun a ha => ⟨M274.pick [] (by kernel_rfl), ha.sub (by kernel_rfl)⟩
        · refine W_known 14 false (by kernel_rfl) hc288 ?_
          refine W_run 2 [(0, .string x238), (3, .int .i64 s269), (14, .bool false), (15, .string x238), (16, .int .i64 s269)] w273 (by kernel_rfl) ?_
          obtain ⟨q289, hq289, hm⟩ := gx_bind hm
          refine W_val (.int .u8 q289) w273 (by kernel_rfl) (E_strIdx _ _ _ x238 .i64 s269 q289 rfl (by kernel_rfl) (by kernel_rfl) (by kernel_rfl) hq289) ?_
          refine W_run 2 [(0, .string x238), (3, .int .i64 s269), (19, .bool (decide (q289 > 122)))] w273 (by kernel_rfl) ?_
          refine W_nil ?_
          obtain rfl := Option.some.inj hm
          exact N_meet fun a ha => ⟨M274.pick [] (by kernel_rfl), ha.sub (by kernel_rfl)⟩
      · intro a292 w290 ⟨M291, hS293⟩
        refine N_use hS293 ?_
        have hm := hm286
        refine N_then ?_
        rcases gx_bif hm with ⟨hc294, hm⟩ | ⟨hc294, hm⟩
        · refine G_cond_t (b := o284) hc294 (by kernel_rfl) ?_
          refine G_seq ?_
          refine G_region ?_
          refine W_run 1 [(2, .bool false)] w290 (by kernel_rfl) ?_
          refine W_nil ?_
          refine N_then ?_
          refine G_ret ?_
          refine N_block_ret ?_
          refine N_then_ret ?_
          refine N_then_ret ?_
          obtain rfl := Option.some.inj hm
          obtain rfl := hout271 _ rfl
          have hm := hmo278; simp only [Sum.elim_inr] at hm
          refine N_block_ret ?_
          refine N_meet_ret ?_
          refine N_then_ret ?_
          obtain rfl := Option.some.inj hm
          refine N_ret [.bool false] (RVs_cons (RV_tmp (by kernel_rfl)) RVs_nil) ?_
          exact ⟨rfl, M291.pick [] (by kernel_rfl)⟩
        · refine G_cond_f (b := o284) hc294 (by kernel_rfl) ?_
          refine G_skip ?_
          refine N_block ?_
          refine N_then ?_
          refine G_region ?_
          refine W_run 3 [(0, .string x238), (3, .int .i64 (w64 (s269 + 1)))] w290 (by kernel_rfl) ?_
          refine W_nil ?_
          obtain rfl := Option.some.inj hm
          exact N_loop fun a ha => ⟨_, rfl, M291.pick [] (by kernel_rfl), ha.sub (by kernel_rfl)⟩
    · refine G_cond_f (b := (decide (s269 < (x238.size : Int)))) hc280 (by kernel_rfl) ?_
      refine G_exit ?_
      refine N_then_exit ?_
      refine N_then_exit ?_
      refine N_block_eq ?_
      obtain rfl := Option.some.inj hm
      obtain rfl := hout271 _ rfl
      exact N_meet fun a ha => ⟨_, rfl, M274.pick [] (by kernel_rfl), ha.sub (by kernel_rfl)⟩
  · intro a295 w296 ⟨o279, hout_, M297, hS298⟩
    refine N_use hS298 ?_
    subst hout_
    have hm := hmo278; simp only [Sum.elim_inl] at hm
    refine N_then ?_
    refine G_seq ?_
    refine G_region ?_
    refine W_run 2 [(21, .int .i64 (x238.size : Int))] w296 (by kernel_rfl) ?_
    obtain ⟨r299, hr299, hm⟩ := gx_bind hm
    refine W_call 58 #[.int .i64 (x238.size : Int), .int .i64 1, .int .i64 8] (by kernel_rfl) (by kernel_rfl) ?_
    refine (c_s_l1In w296 (x238.size : Int) 1 8 hr299).mono ?_
    rintro e_ w300 ⟨rfl, K301⟩
    have M302 := M297.call0 K301
    refine ⟨_, rfl, ?_⟩
    refine W_run 1 [(2, .bool r299)] w300 (by kernel_rfl) ?_
    refine W_nil ?_
    refine N_then ?_
    refine G_ret ?_
    obtain rfl := Option.some.inj hm
    refine N_ret [.bool r299] (RVs_cons (RV_tmp (by kernel_rfl)) RVs_nil) ?_
    exact ⟨rfl, M302.pick [] (by kernel_rfl)⟩
theorem c_s_l22One (w : World) (x201 : Event) {r : Bool} (hm : M.s_l22One x201 = some r) :
    Calls Try.prog 51 #[.agg #[.int .i64 x201.Tick, .int .i64 x201.Guest, .string x201.Kind, .int .i64 x201.Value]] w fun e w' => e = .returned (.bool r) ∧ Mem [] w w' [] := by
  unfold M.s_l22One at hm
  refine C_enter Try.func51 rfl (by kernel_rfl) ?_
  have M0 := Mem.refl [] w
  refine G_seq ?_
  refine G_region ?_
  refine W_new (fun b => .pointer (some ⟨b, 0, none⟩)) (.cells ⟨[.int .i64 x201.Tick, .int .i64 x201.Guest, .string x201.Kind, .int .i64 x201.Value]⟩ 26 (0, 0)) M0 rfl (by kernel_rfl) (by kernel_rfl) ?_
  intro b203 w204 M205
  refine W_run 1 [(1, .pointer (some ⟨b203, 0, none⟩))] w204 (by kernel_rfl) ?_
  refine W_nil ?_
  refine N_then ?_
  refine G_seq ?_
  obtain ⟨o312, ho313, hm314⟩ := gx_bind hm
  refine G_meet (fun a w' => Mem [] w w' [] ∧ Sat Try.f51.ntmps [(2, .bool o312)] a) ?_ ?_
  · have hm := ho313
    refine G_region ?_
    refine W_run 1 [(1, .pointer (some ⟨b203, 0, none⟩)), (3, .pointer (some ⟨b203, 0, none⟩))] w204 (by kernel_rfl) ?_
    refine W_val (.int .i64 x201.Tick) w204 (by kernel_rfl) (E_load (e := 26) (fr := (0, 0)) _ _ false 1 b203 0 [.int .i64 x201.Tick, .int .i64 x201.Guest, .string x201.Kind, .int .i64 x201.Value] (.int .i64 x201.Tick) rfl (by kernel_rfl) (by kernel_rfl) (by kernel_rfl) (M205.blk 0 (b := b203) (o := .cells ⟨[.int .i64 x201.Tick, .int .i64 x201.Guest, .string x201.Kind, .int .i64 x201.Value]⟩ 26 (0, 0)) (by kernel_rfl))) ?_
    obtain ⟨r315, hr315, hm⟩ := gx_bind hm
    refine W_call 65 #[.int .i64 x201.Tick] (by kernel_rfl) (by kernel_rfl) ?_
    refine (c_s_l11Tick w204 x201.Tick hr315).mono ?_
    rintro e_ w316 ⟨rfl, K317⟩
    have M318 := M205.call0 K317
    refine ⟨_, rfl, ?_⟩
    refine W_run 1 [(1, .pointer (some ⟨b203, 0, none⟩)), (6, .bool r315)] w316 (by kernel_rfl) ?_
    rcases gx_bif hm with ⟨hc319, hm⟩ | ⟨hc319, hm⟩
    · refine W_known 6 true (by kernel_rfl) hc319 ?_
      refine W_run 1 [(1, .pointer (some ⟨b203, 0, none⟩)), (6, .bool true), (7, .pointer (some ⟨b203, 1, none⟩))] w316 (by kernel_rfl) ?_
      refine W_val (.int .i64 x201.Guest) w316 (by kernel_rfl) (E_load (e := 26) (fr := (0, 0)) _ _ false 1 b203 1 [.int .i64 x201.Tick, .int .i64 x201.Guest, .string x201.Kind, .int .i64 x201.Value] (.int .i64 x201.Guest) rfl (by kernel_rfl) (by kernel_rfl) (by kernel_rfl) (M318.blk 0 (b := b203) (o := .cells ⟨[.int .i64 x201.Tick, .int .i64 x201.Guest, .string x201.Kind, .int .i64 x201.Value]⟩ 26 (0, 0)) (by kernel_rfl))) ?_
      obtain ⟨r320, hr320, hm⟩ := gx_bind hm
      refine W_call 61 #[.int .i64 x201.Guest] (by kernel_rfl) (by kernel_rfl) ?_
      refine (c_s_l22Guest w316 x201.Guest hr320).mono ?_
      rintro e_ w321 ⟨rfl, K322⟩
      have M323 := M318.call0 K322
      refine ⟨_, rfl, ?_⟩
      refine W_run 2 [(1, .pointer (some ⟨b203, 0, none⟩)), (11, .bool r320)] w321 (by kernel_rfl) ?_
      rcases gx_bif hm with ⟨hc324, hm⟩ | ⟨hc324, hm⟩
      · refine W_known 11 true (by kernel_rfl) hc324 ?_
        refine W_run 1 [(1, .pointer (some ⟨b203, 0, none⟩)), (11, .bool true), (12, .pointer (some ⟨b203, 2, none⟩))] w321 (by kernel_rfl) ?_
        refine W_val (.string x201.Kind) w321 (by kernel_rfl) (E_load (e := 26) (fr := (0, 0)) _ _ false 1 b203 2 [.int .i64 x201.Tick, .int .i64 x201.Guest, .string x201.Kind, .int .i64 x201.Value] (.string x201.Kind) rfl (by kernel_rfl) (by kernel_rfl) (by kernel_rfl) (M323.blk 0 (b := b203) (o := .cells ⟨[.int .i64 x201.Tick, .int .i64 x201.Guest, .string x201.Kind, .int .i64 x201.Value]⟩ 26 (0, 0)) (by kernel_rfl))) ?_
        obtain ⟨r325, hr325, hm⟩ := gx_bind hm
        refine W_call 79 #[.string x201.Kind] (by kernel_rfl) (by kernel_rfl) ?_
        refine (c_s_l22Kind w321 x201.Kind hr325).mono ?_
        rintro e_ w326 ⟨rfl, K327⟩
        have M328 := M323.call0 K327
        refine ⟨_, rfl, ?_⟩
        refine W_run 2 [(1, .pointer (some ⟨b203, 0, none⟩)), (16, .bool r325)] w326 (by kernel_rfl) ?_
        rcases gx_bif hm with ⟨hc329, hm⟩ | ⟨hc329, hm⟩
        · refine W_known 16 true (by kernel_rfl) hc329 ?_
          refine W_run 1 [(16, .bool true), (17, .pointer (some ⟨b203, 3, none⟩))] w326 (by kernel_rfl) ?_
          refine W_val (.int .i64 x201.Value) w326 (by kernel_rfl) (E_load (e := 26) (fr := (0, 0)) _ _ false 1 b203 3 [.int .i64 x201.Tick, .int .i64 x201.Guest, .string x201.Kind, .int .i64 x201.Value] (.int .i64 x201.Value) rfl (by kernel_rfl) (by kernel_rfl) (by kernel_rfl) (M328.blk 0 (b := b203) (o := .cells ⟨[.int .i64 x201.Tick, .int .i64 x201.Guest, .string x201.Kind, .int .i64 x201.Value]⟩ 26 (0, 0)) (by kernel_rfl))) ?_
          obtain ⟨r330, hr330, hm⟩ := gx_bind hm
          refine W_call 58 #[.int .i64 x201.Value, .int .i64 0, .int .i64 65535] (by kernel_rfl) (by kernel_rfl) ?_
          refine (c_s_l1In w326 x201.Value 0 65535 hr330).mono ?_
          rintro e_ w331 ⟨rfl, K332⟩
          have M333 := M328.call0 K332
          refine ⟨_, rfl, ?_⟩
          refine W_run 2 [(2, .bool r330)] w331 (by kernel_rfl) ?_
          refine W_nil ?_
          obtain rfl := Option.some.inj hm
          exact N_meet fun a ha => ⟨M333.pick [] (by kernel_rfl), ha.sub (by kernel_rfl)⟩
        · refine W_known 16 false (by kernel_rfl) hc329 ?_
          refine W_run 5 [(2, .bool false)] w326 (by kernel_rfl) ?_
          refine W_nil ?_
          obtain rfl := Option.some.inj hm
          exact N_meet fun a ha => ⟨M328.pick [] (by kernel_rfl), ha.sub (by kernel_rfl)⟩
      · refine W_known 11 false (by kernel_rfl) hc324 ?_
        refine W_run 10 [(2, .bool false)] w321 (by kernel_rfl) ?_
        refine W_nil ?_
        obtain rfl := Option.some.inj hm
        exact N_meet fun a ha => ⟨M323.pick [] (by kernel_rfl), ha.sub (by kernel_rfl)⟩
    · refine W_known 6 false (by kernel_rfl) hc319 ?_
      refine W_run 15 [(2, .bool false)] w316 (by kernel_rfl) ?_
      refine W_nil ?_
      obtain rfl := Option.some.inj hm
      exact N_meet fun a ha => ⟨M318.pick [] (by kernel_rfl), ha.sub (by kernel_rfl)⟩
  · intro a336 w334 ⟨M335, hS337⟩
    refine N_use hS337 ?_
    have hm := hm314
    refine N_then ?_
    refine G_ret ?_
    obtain rfl := Option.some.inj hm
    refine N_ret [.bool o312] (RVs_cons (RV_tmp (by kernel_rfl)) RVs_nil) ?_
    exact ⟨rfl, M335.pick [] (by kernel_rfl)⟩
theorem c_s_l22Good (w : World) (x194 : List Event) (p196 : Option Addr) (c197 : Nat) (h198 : rdS encEvent w x194 p196 c197) {r : Bool} (hm : M.s_l22Good x194 = some r) :
    Calls Try.prog 56 #[.slice p196 x194.length c197] w fun e w' => e = .returned (.bool r) ∧ Mem [] w w' [] := by
  unfold M.s_l22Good at hm
  refine C_enter Try.func56 rfl (by kernel_rfl) ?_
  have M0 := Mem.refl [] w
  refine G_seq ?_
  refine G_region ?_
  refine W_run 1 [(0, .slice p196 x194.length c197)] w (by kernel_rfl) ?_
  refine W_nil ?_
  refine N_then ?_
  refine G_seq ?_
  refine G_seq ?_
  refine G_region ?_
  refine W_run 1 [(0, .slice p196 x194.length c197), (3, .int .i64 0)] w (by kernel_rfl) ?_
  refine W_nil ?_
  refine N_then ?_
  obtain ⟨out421, hw422, hmo423⟩ := gx_bind hm
  refine G_meet (fun a w' => ∃ (o424 : Unit), out421 = .inl o424 ∧ Mem [] w w' [] ∧ Sat Try.f56.ntmps [(0, .slice p196 x194.length c197)] a) ?_ ?_
  · refine G_block ?_
    refine G_while (σ := Int) (ρ := (Unit) ⊕ (Bool)) (fun s414 a w' => Mem [] w w' [] ∧ Sat Try.f56.ntmps [(0, .slice p196 x194.length c197), (3, .int .i64 s414)] a) hw422 (fun a ha => ⟨M0.pick [] (by kernel_rfl), ha.sub (by kernel_rfl)⟩) ?_
    clear hm
    intro s414 x415 hm hout416 a417 w418 ⟨M419, hS420⟩
    refine G_use hS420 ?_
    refine G_seq ?_
    refine G_seq ?_
    refine G_region ?_
    refine W_run 4 [(0, .slice p196 x194.length c197), (3, .int .i64 s414), (7, .bool (decide (s414 < (x194.length : Int))))] w418 (by kernel_rfl) ?_
    refine W_nil ?_
    refine N_then ?_
    rcases gx_bif hm with ⟨hc425, hm⟩ | ⟨hc425, hm⟩
    · refine G_cond_t (b := (decide (s414 < (x194.length : Int)))) hc425 (by kernel_rfl) ?_
      refine G_skip ?_
      refine N_then ?_
      refine G_seq ?_
      refine G_block ?_
      refine G_seq ?_
      obtain ⟨o441, ho442, hm443⟩ := gx_bind hm
      refine G_meet (fun a w' => Mem [] w w' [] ∧ Sat Try.f56.ntmps [(0, .slice p196 x194.length c197), (3, .int .i64 s414), (33, .bool o441)] a) ?_ ?_
      · have hm := ho442
        refine G_quiet (by kernel_rfl) (by kernel_rfl) M419 ?_
        refine Z_runs [.slice p196 x194.length c197, .int .i64 s414] [(0, .slice p196 x194.length c197), (3, .int .i64 s414), (10, .slice p196 x194.length c197), (11, .int .i64 s414)] (fun w_ => by kernel_rfl) (by kernel_rfl) ?_
        obtain ⟨y444, hy444, hm⟩ := gx_bind hm
        refine Z_val (elemP p196 (s414.toNat * 4)) (by kernel_rfl) (fun w_ M_ => (E_index (E := encEvent) _ _ _ x194.length c197 .i64 s414 4 (y := y444) rfl (by kernel_rfl) (by kernel_rfl) (by kernel_rfl) (h198.mem0 M_) rfl hy444)) ?_
        refine Z_val (.agg #[.int .i64 y444.Tick, .int .i64 y444.Guest, .string y444.Kind, .int .i64 y444.Value]) (by kernel_rfl) (fun w_ M_ => (E_loadE (E := encEvent) _ _ true 4 s414 0 (s414.toNat * 4) y444 (.agg #[.int .i64 y444.Tick, .int .i64 y444.Guest, .string y444.Kind, .int .i64 y444.Value]) rfl (by kernel_rfl) (by kernel_rfl) (by kernel_rfl) (h198.mem0 M_) hy444 rfl)) ?_
        obtain ⟨r445, hr445, hm⟩ := gx_bind hm
        refine Z_call 51 #[.agg #[.int .i64 y444.Tick, .int .i64 y444.Guest, .string y444.Kind, .int .i64 y444.Value]] (.bool r445) (by kernel_rfl) (fun w_ => by kernel_rfl) (fun w_ M_ => (c_s_l22One w_ y444 hr445).mono fun e w2_ h_ => ⟨h_.1, M_.call0 h_.2⟩) ?_
        refine Z_runs [.bool (!r445), .bool (!r445)] [(0, .slice p196 x194.length c197), (3, .int .i64 s414), (16, .bool (!r445))] (fun w_ => by kernel_rfl) (by kernel_rfl) ?_
        rcases gx_bif hm with ⟨hc449, hm⟩ | ⟨hc449, hm⟩
        · refine Z_known 16 true (by kernel_rfl) hc449 ?_
          refine Z_runs [undef, undef, undef, undef, undef, undef, undef, undef, undef, undef, undef, undef, undef, undef, undef, undef, .bool true] [(0, .slice p196 x194.length c197), (3, .int .i64 s414), (33, .bool true)] (fun w_ => by kernel_rfl) (by kernel_rfl) ?_
          refine Z_end fun w450 M451 => ?_
          obtain rfl := Option.some.inj hm
          exact N_meet fun a ha => ⟨M451.pick [] (by kernel_rfl), ha.sub (by kernel_rfl)⟩
        · refine Z_known 16 false (by kernel_rfl) hc449 ?_
          refine Z_runs [.int .i64 s414, .bool (decide (s414 > 0)), .bool (decide (s414 > 0))] [(0, .slice p196 x194.length c197), (3, .int .i64 s414), (16, .bool false), (19, .bool (decide (s414 > 0)))] (fun w_ => by kernel_rfl) (by kernel_rfl) ?_
          rcases gx_bif hm with ⟨hc452, hm⟩ | ⟨hc452, hm⟩
          · refine Z_known 19 true (by kernel_rfl) hc452 ?_
            refine Z_runs [.slice p196 x194.length c197, .int .i64 s414, .int .i64 (w64 (s414 - 1))] [(0, .slice p196 x194.length c197), (3, .int .i64 s414), (16, .bool false), (19, .bool true), (20, .slice p196 x194.length c197), (22, .int .i64 (w64 (s414 - 1)))] (fun w_ => by kernel_rfl) (by kernel_rfl) ?_
            obtain ⟨y453, hy453, hm⟩ := gx_bind hm
            refine Z_val (elemP p196 ((w64 (s414 - 1)).toNat * 4)) (by kernel_rfl) (fun w_ M_ => (E_index (E := encEvent) _ _ _ x194.length c197 .i64 (w64 (s414 - 1)) 4 (y := y453) rfl (by kernel_rfl) (by kernel_rfl) (by kernel_rfl) (h198.mem0 M_) rfl hy453)) ?_
            refine Z_val (elemP p196 ((w64 (s414 - 1)).toNat * 4 + 0)) (by kernel_rfl) (fun w_ M_ => (E_fieldE (E := encEvent) _ _ 0 ((w64 (s414 - 1)).toNat * 4) 0 rfl (by kernel_rfl) (by kernel_rfl) (h198.mem0 M_) hy453)) ?_
            refine Z_val (.int .i64 y453.Tick) (by kernel_rfl) (fun w_ M_ => (E_loadE (E := encEvent) _ _ false 1 (w64 (s414 - 1)) 0 ((w64 (s414 - 1)).toNat * 4 + 0) y453 (.int .i64 y453.Tick) rfl (by kernel_rfl) (by kernel_rfl) (by kernel_rfl) (h198.mem0 M_) hy453 rfl)) ?_
            refine Z_runs [.slice p196 x194.length c197, .int .i64 s414] [(0, .slice p196 x194.length c197), (3, .int .i64 s414), (16, .bool false), (19, .bool true), (25, .int .i64 y453.Tick), (26, .slice p196 x194.length c197), (27, .int .i64 s414)] (fun w_ => by kernel_rfl) (by kernel_rfl) ?_
            obtain ⟨y454, hy454, hm⟩ := gx_bind hm
            refine Z_val (elemP p196 (s414.toNat * 4)) (by kernel_rfl) (fun w_ M_ => (E_index (E := encEvent) _ _ _ x194.length c197 .i64 s414 4 (y := y454) rfl (by kernel_rfl) (by kernel_rfl) (by kernel_rfl) (h198.mem0 M_) rfl hy454)) ?_
            refine Z_val (elemP p196 (s414.toNat * 4 + 0)) (by kernel_rfl) (fun w_ M_ => (E_fieldE (E := encEvent) _ _ 0 (s414.toNat * 4) 0 rfl (by kernel_rfl) (by kernel_rfl) (h198.mem0 M_) hy454)) ?_
            refine Z_val (.int .i64 y454.Tick) (by kernel_rfl) (fun w_ M_ => (E_loadE (E := encEvent) _ _ false 1 s414 0 (s414.toNat * 4 + 0) y454 (.int .i64 y454.Tick) rfl (by kernel_rfl) (by kernel_rfl) (by kernel_rfl) (h198.mem0 M_) hy454 rfl)) ?_
            refine Z_runs [.bool (decide (y453.Tick > y454.Tick)), .bool (decide (y453.Tick > y454.Tick)), .bool (decide (y453.Tick > y454.Tick))] [(0, .slice p196 x194.length c197), (3, .int .i64 s414), (33, .bool (decide (y453.Tick > y454.Tick)))] (fun w_ => by kernel_rfl) (by kernel_rfl) ?_
            refine Z_end fun w455 M456 => ?_
            obtain rfl := Option.some.inj hm
            exact N_meet fun a ha => ⟨M456.pick [] (by kernel_rfl), ha.sub (by kernel_rfl)⟩
          · refine Z_known 19 false (by kernel_rfl) hc452 ?_
            refine Z_runs [undef, undef, undef, undef, undef, undef, undef, undef, undef, undef, undef, undef, .bool false, .bool false] [(0, .slice p196 x194.length c197), (3, .int .i64 s414), (33, .bool false)] (fun w_ => by kernel_rfl) (by kernel_rfl) ?_
            refine Z_end fun w457 M458 => ?_
            obtain rfl := Option.some.inj hm
            exact N_meet fun a ha => ⟨M458.pick [] (by kernel_rfl), ha.sub (by kernel_rfl)⟩
      · intro a461 w459 ⟨M460, hS462⟩
        refine N_use hS462 ?_
        have hm := hm443
        refine N_then ?_
        rcases gx_bif hm with ⟨hc463, hm⟩ | ⟨hc463, hm⟩
        · refine G_cond_t (b := o441) hc463 (by kernel_rfl) ?_
          refine G_seq ?_
          refine G_region ?_
          refine W_run 1 [(2, .bool false)] w459 (by kernel_rfl) ?_
          refine W_nil ?_
          refine N_then ?_
          refine G_ret ?_
          refine N_block_ret ?_
          refine N_then_ret ?_
          refine N_then_ret ?_
          obtain rfl := Option.some.inj hm
          obtain rfl := hout416 _ rfl
          have hm := hmo423; simp only [Sum.elim_inr] at hm
          refine N_block_ret ?_
          refine N_meet_ret ?_
          refine N_then_ret ?_
          obtain rfl := Option.some.inj hm
          refine N_ret [.bool false] (RVs_cons (RV_tmp (by kernel_rfl)) RVs_nil) ?_
          exact ⟨rfl, M460.pick [] (by kernel_rfl)⟩
        · refine G_cond_f (b := o441) hc463 (by kernel_rfl) ?_
          refine G_skip ?_
          refine N_block ?_
          refine N_then ?_
          refine G_region ?_
          refine W_run 3 [(0, .slice p196 x194.length c197), (3, .int .i64 (w64 (s414 + 1)))] w459 (by kernel_rfl) ?_
          refine W_nil ?_
          obtain rfl := Option.some.inj hm
          exact N_loop fun a ha => ⟨_, rfl, M460.pick [] (by kernel_rfl), ha.sub (by kernel_rfl)⟩
    · refine G_cond_f (b := (decide (s414 < (x194.length : Int)))) hc425 (by kernel_rfl) ?_
      refine G_exit ?_
      refine N_then_exit ?_
      refine N_then_exit ?_
      refine N_block_eq ?_
      obtain rfl := Option.some.inj hm
      obtain rfl := hout416 _ rfl
      exact N_meet fun a ha => ⟨_, rfl, M419.pick [] (by kernel_rfl), ha.sub (by kernel_rfl)⟩
  · intro a464 w465 ⟨o424, hout_, M466, hS467⟩
    refine N_use hS467 ?_
    subst hout_
    have hm := hmo423; simp only [Sum.elim_inl] at hm
    refine N_then ?_
    refine G_seq ?_
    refine G_region ?_
    refine W_run 4 [(2, .bool (decide ((x194.length : Int) ≤ 30)))] w465 (by kernel_rfl) ?_
    refine W_nil ?_
    refine N_then ?_
    refine G_ret ?_
    obtain rfl := Option.some.inj hm
    refine N_ret [.bool (decide ((x194.length : Int) ≤ 30))] (RVs_cons (RV_tmp (by kernel_rfl)) RVs_nil) ?_
    exact ⟨rfl, M466.pick [] (by kernel_rfl)⟩
theorem c_s_CountKinds (w : World) (x165 : List Event) (p167 : Option Addr) (c168 : Nat) (h169 : rdS encEvent w x165 p167 c168) {r : (List ByteArray) × (List Int) × Bool} (hm : M.s_CountKinds x165 = some r) :
    Calls Try.prog 36 #[.slice p167 x165.length c168] w fun e w' => ∃ (p171 : Option Addr) (c172 : Nat) (sg173 : Seg), ∃ (p175 : Option Addr) (c176 : Nat) (sg177 : Seg), e = .returned (.tuple #[.slice p171 r.1.length c172, .slice p175 r.2.1.length c176, .bool r.2.2]) ∧ ownS Gx.encS r.1 p171 c172 sg173 ∧ ownS Gx.encI r.2.1 p175 c176 sg177 ∧ Mem [] w w' [sg173, sg177] := by
  unfold M.s_CountKinds at hm
  refine C_enter Try.func36 rfl (by kernel_rfl) ?_
  have M0 := Mem.refl [] w
  refine G_seq ?_
  refine G_region ?_
  refine W_run 3 [(0, .slice p167 x165.length c168)] w (by kernel_rfl) ?_
  refine W_nil ?_
  refine N_then ?_
  refine G_seq ?_
  refine G_region ?_
  refine W_lit (E := Gx.encS) ([] : List ByteArray) 0 [] 9 M0 (by kernel_rfl) (by kernel_rfl) (by kernel_rfl) (by kernel_rfl) (by kernel_rfl) ?_
  intro p180 c181 sg182 w183 ho184 M185
  refine W_lit (E := Gx.encI) ([] : List Int) 0 [] 3 M185 (by kernel_rfl) (by kernel_rfl) (by kernel_rfl) (by kernel_rfl) (by kernel_rfl) ?_
  intro p187 c188 sg189 w190 ho191 M192
  refine W_run 2 [(0, .slice p167 x165.length c168), (5, .slice p180 ([] : List ByteArray).length c181), (6, .slice p187 ([] : List Int).length c188)] w190 (by kernel_rfl) ?_
  refine W_nil ?_
  refine N_then ?_
  refine G_seq ?_
  refine G_seq ?_
  refine G_region ?_
  refine W_run 1 [(0, .slice p167 x165.length c168), (5, .slice p180 ([] : List ByteArray).length c181), (6, .slice p187 ([] : List Int).length c188), (11, .slice p167 x165.length c168)] w190 (by kernel_rfl) ?_
  obtain ⟨r468, hr468, hm⟩ := gx_bind hm
  refine W_call 56 #[.slice p167 x165.length c168] (by kernel_rfl) (by kernel_rfl) ?_
  refine (c_s_l22Good w190 x165 p167 c168 (h169.mem0 M192) hr468).mono ?_
  rintro e_ w469 ⟨rfl, K470⟩
  have M471 := M192.call0 K470
  refine ⟨_, rfl, ?_⟩
  refine W_run 1 [(0, .slice p167 x165.length c168), (5, .slice p180 ([] : List ByteArray).length c181), (6, .slice p187 ([] : List Int).length c188), (13, .bool (!r468))] w469 (by kernel_rfl) ?_
  refine W_nil ?_
  refine N_then ?_
  rcases gx_bif hm with ⟨hc472, hm⟩ | ⟨hc472, hm⟩
  · refine G_cond_t (b := (!r468)) hc472 (by kernel_rfl) ?_
    refine G_seq ?_
    refine G_region ?_
    refine W_run 5 [(2, .slice p180 ([] : List ByteArray).length c181), (3, .slice p187 ([] : List Int).length c188), (4, .bool false)] w469 (by kernel_rfl) ?_
    refine W_nil ?_
    refine N_then ?_
    refine G_ret ?_
    refine N_then_ret ?_
    obtain rfl := Option.some.inj hm
    refine N_ret [.slice p180 ([] : List ByteArray).length c181, .slice p187 ([] : List Int).length c188, .bool false] (RVs_cons (RV_tmp (by kernel_rfl)) (RVs_cons (RV_tmp (by kernel_rfl)) (RVs_cons (RV_tmp (by kernel_rfl)) RVs_nil))) ?_
    exact ⟨p180, c181, sg182, p187, c188, sg189, rfl, ho184, ho191, M471.pick [0, 1] (by kernel_rfl)⟩
  · refine G_cond_f (b := (!r468)) hc472 (by kernel_rfl) ?_
    refine G_skip ?_
    refine N_then ?_
    refine G_seq ?_
    refine G_seq ?_
    refine G_region ?_
    refine W_run 1 [(0, .slice p167 x165.length c168), (5, .slice p180 ([] : List ByteArray).length c181), (6, .slice p187 ([] : List Int).length c188), (7, .int .i64 0)] w469 (by kernel_rfl) ?_
    refine W_nil ?_
    refine N_then ?_
    obtain ⟨out1684, hw1685, hmo1686⟩ := gx_bind hm
    refine G_meet (fun a w' => ∃ (p1700 : Option Addr), ∃ (c1701 : Nat), ∃ (sg1702 : Seg), ∃ (p1705 : Option Addr), ∃ (c1706 : Nat), ∃ (sg1707 : Seg), ∃ (sg1710 : Seg), ownS Gx.encS out1684.1 p1700 c1701 sg1702 ∧ ownS Gx.encI out1684.2.1 p1705 c1706 sg1707 ∧ ownS Gx.encI out1684.2.2 p187 c188 sg1710 ∧ Mem [] w w' [sg1702, sg1707] ∧ Sat Try.f36.ntmps [(5, .slice p1700 out1684.1.length c1701), (6, .slice p1705 out1684.2.1.length c1706)] a) ?_ ?_
    · refine G_block ?_
      refine G_while (σ := List ByteArray × List Int × Int × List Int) (ρ := List ByteArray × List Int × List Int) (fun s1677 a w' => ∃ (p1687 : Option Addr), ∃ (c1688 : Nat), ∃ (sg1689 : Seg), ∃ (p1692 : Option Addr), ∃ (c1693 : Nat), ∃ (sg1694 : Seg), ∃ (sg1697 : Seg), ownS Gx.encS s1677.1 p1687 c1688 sg1689 ∧ ownS Gx.encI s1677.2.1 p1692 c1693 sg1694 ∧ ownS Gx.encI s1677.2.2.2 p187 c188 sg1697 ∧ Mem [] w w' [sg1689, sg1694] ∧ Sat Try.f36.ntmps [(0, .slice p167 x165.length c168), (5, .slice p1687 s1677.1.length c1688), (6, .slice p1692 s1677.2.1.length c1693), (7, .int .i64 s1677.2.2.1)] a) hw1685 (fun a ha => ⟨p180, c181, sg182, p187, c188, sg189, sg189, ho184, ho191, ho191, M471.pick [0, 1] (by kernel_rfl), ha.sub (by kernel_rfl)⟩) ?_
      clear hm
      intro s1677 x1678 hm hout1679 a1680 w1681 ⟨p1687, c1688, sg1689, p1692, c1693, sg1694, sg1697, ho1690, ho1695, ho1698, M1682, hS1683⟩
      refine G_use hS1683 ?_
      refine G_seq ?_
      refine G_seq ?_
      refine G_region ?_
      refine W_run 4 [(0, .slice p167 x165.length c168), (5, .slice p1687 s1677.1.length c1688), (6, .slice p1692 s1677.2.1.length c1693), (7, .int .i64 s1677.2.2.1), (19, .bool (decide (s1677.2.2.1 < (x165.length : Int))))] w1681 (by kernel_rfl) ?_
      refine W_nil ?_
      refine N_then ?_
      rcases gx_bif hm with ⟨hc1712, hm⟩ | ⟨hc1712, hm⟩
      · refine G_cond_t (b := (decide (s1677.2.2.1 < (x165.length : Int)))) hc1712 (by kernel_rfl) ?_
        refine G_skip ?_
        refine N_then ?_
        refine G_seq ?_
        obtain ⟨o2001, ho2002, hm2003⟩ := gx_bind hm
        refine G_meet (fun a w' => ∃ (p2004 : Option Addr), ∃ (c2005 : Nat), ∃ (sg2006 : Seg), ∃ (p2009 : Option Addr), ∃ (c2010 : Nat), ∃ (sg2011 : Seg), ∃ (sg2014 : Seg), ownS Gx.encS o2001.1 p2004 c2005 sg2006 ∧ ownS Gx.encI o2001.2.1 p2009 c2010 sg2011 ∧ ownS Gx.encI o2001.2.2 p1692 c1693 sg2014 ∧ Mem [] w w' [sg2006, sg2011] ∧ Sat Try.f36.ntmps [(0, .slice p167 x165.length c168), (5, .slice p2004 o2001.1.length c2005), (6, .slice p2009 o2001.2.1.length c2010), (7, .int .i64 s1677.2.2.1)] a) ?_ ?_
        · have hm := ho2002
          refine G_block ?_
          refine G_seq ?_
          refine G_region ?_
          refine W_run 1 [(0, .slice p167 x165.length c168), (5, .slice p1687 s1677.1.length c1688), (6, .slice p1692 s1677.2.1.length c1693), (7, .int .i64 s1677.2.2.1), (8, .int .i64 0)] w1681 (by kernel_rfl) ?_
          refine W_nil ?_
          refine N_then ?_
          refine G_seq ?_
          obtain ⟨out2067, hw2068, hmo2069⟩ := gx_bind hm
          refine G_meet (fun a w' => Mem [] w w' [sg1689, sg1694] ∧ Sat Try.f36.ntmps [(0, .slice p167 x165.length c168), (5, .slice p1687 s1677.1.length c1688), (6, .slice p1692 s1677.2.1.length c1693), (7, .int .i64 s1677.2.2.1), (8, .int .i64 out2067)] a) ?_ ?_
          · refine G_block ?_
            refine G_while (σ := Int) (ρ := Int) (fun s2060 a w' => Mem [] w w' [sg1689, sg1694] ∧ Sat Try.f36.ntmps [(0, .slice p167 x165.length c168), (5, .slice p1687 s1677.1.length c1688), (6, .slice p1692 s1677.2.1.length c1693), (7, .int .i64 s1677.2.2.1), (8, .int .i64 s2060)] a) hw2068 (fun a ha => ⟨M1682.pick [0, 1] (by kernel_rfl), ha.sub (by kernel_rfl)⟩) ?_
            clear hm
            intro s2060 x2061 hm hout2062 a2063 w2064 ⟨M2065, hS2066⟩
            refine G_use hS2066 ?_
            refine G_seq ?_
            refine G_seq ?_
            obtain ⟨o2078, ho2079, hm2080⟩ := gx_bind hm
            refine G_meet (fun a w' => Mem [] w w' [sg1689, sg1694] ∧ Sat Try.f36.ntmps [(0, .slice p167 x165.length c168), (5, .slice p1687 s1677.1.length c1688), (6, .slice p1692 s1677.2.1.length c1693), (7, .int .i64 s1677.2.2.1), (8, .int .i64 s2060), (37, .bool o2078)] a) ?_ ?_
            · have hm := ho2079
              refine G_quiet (by kernel_rfl) (by kernel_rfl) M2065 ?_
              refine Z_runs [.int .i64 s2060, .slice p1687 s1677.1.length c1688, .int .i64 (s1677.1.length : Int), .bool (decide (s2060 < (s1677.1.length : Int))), .bool (decide (s2060 < (s1677.1.length : Int)))] [(0, .slice p167 x165.length c168), (5, .slice p1687 s1677.1.length c1688), (6, .slice p1692 s1677.2.1.length c1693), (7, .int .i64 s1677.2.2.1), (8, .int .i64 s2060), (26, .bool (decide (s2060 < (s1677.1.length : Int))))] (fun w_ => by kernel_rfl) (by kernel_rfl) ?_
              rcases gx_bif hm with ⟨hc2081, hm⟩ | ⟨hc2081, hm⟩
              · refine Z_known 26 true (by kernel_rfl) hc2081 ?_
                refine Z_runs [.slice p1687 s1677.1.length c1688, .int .i64 s2060] [(0, .slice p167 x165.length c168), (5, .slice p1687 s1677.1.length c1688), (6, .slice p1692 s1677.2.1.length c1693), (7, .int .i64 s1677.2.2.1), (8, .int .i64 s2060), (26, .bool true), (27, .slice p1687 s1677.1.length c1688), (28, .int .i64 s2060)] (fun w_ => by kernel_rfl) (by kernel_rfl) ?_
                obtain ⟨y2082, hy2082, hm⟩ := gx_bind hm
                refine Z_val (elemP p1687 (s2060.toNat * 1)) (by kernel_rfl) (fun w_ M_ => (E_index (E := Gx.encS) _ _ _ s1677.1.length c1688 .i64 s2060 1 (y := y2082) rfl (by kernel_rfl) (by kernel_rfl) (by kernel_rfl) (ho1690.rd M_ 0 (by kernel_rfl)) rfl hy2082)) ?_
                refine Z_val (.string y2082) (by kernel_rfl) (fun w_ M_ => (E_loadE (E := Gx.encS) _ _ false 1 s2060 0 (s2060.toNat * 1) y2082 (.string y2082) rfl (by kernel_rfl) (by kernel_rfl) (by kernel_rfl) (ho1690.rd M_ 0 (by kernel_rfl)) hy2082 rfl)) ?_
                refine Z_runs [.slice p167 x165.length c168, .int .i64 s1677.2.2.1] [(0, .slice p167 x165.length c168), (5, .slice p1687 s1677.1.length c1688), (6, .slice p1692 s1677.2.1.length c1693), (7, .int .i64 s1677.2.2.1), (8, .int .i64 s2060), (26, .bool true), (30, .string y2082), (31, .slice p167 x165.length c168), (32, .int .i64 s1677.2.2.1)] (fun w_ => by kernel_rfl) (by kernel_rfl) ?_
                obtain ⟨y2083, hy2083, hm⟩ := gx_bind hm
                refine Z_val (elemP p167 (s1677.2.2.1.toNat * 4)) (by kernel_rfl) (fun w_ M_ => (E_index (E := encEvent) _ _ _ x165.length c168 .i64 s1677.2.2.1 4 (y := y2083) rfl (by kernel_rfl) (by kernel_rfl) (by kernel_rfl) (h169.mem0 M_) rfl hy2083)) ?_
                refine Z_val (elemP p167 (s1677.2.2.1.toNat * 4 + 2)) (by kernel_rfl) (fun w_ M_ => (E_fieldE (E := encEvent) _ _ 2 (s1677.2.2.1.toNat * 4) 2 rfl (by kernel_rfl) (by kernel_rfl) (h169.mem0 M_) hy2083)) ?_
                refine Z_val (.string y2083.Kind) (by kernel_rfl) (fun w_ M_ => (E_loadE (E := encEvent) _ _ false 1 s1677.2.2.1 2 (s1677.2.2.1.toNat * 4 + 2) y2083 (.string y2083.Kind) rfl (by kernel_rfl) (by kernel_rfl) (by kernel_rfl) (h169.mem0 M_) hy2083 rfl)) ?_
                refine Z_runs [.bool (Op.bytesLess y2082.toList y2083.Kind.toList), .bool (Op.bytesLess y2082.toList y2083.Kind.toList)] [(0, .slice p167 x165.length c168), (5, .slice p1687 s1677.1.length c1688), (6, .slice p1692 s1677.2.1.length c1693), (7, .int .i64 s1677.2.2.1), (8, .int .i64 s2060), (37, .bool (Op.bytesLess y2082.toList y2083.Kind.toList))] (fun w_ => by kernel_rfl) (by kernel_rfl) ?_
                refine Z_end fun w2084 M2085 => ?_
                obtain rfl := Option.some.inj hm
                exact N_meet fun a ha => ⟨M2085.pick [0, 1] (by kernel_rfl), ha.sub (by kernel_rfl)⟩
              · refine Z_known 26 false (by kernel_rfl) hc2081 ?_
                refine Z_runs [undef, undef, undef, undef, undef, undef, undef, undef, undef, undef, .bool false] [(0, .slice p167 x165.length c168), (5, .slice p1687 s1677.1.length c1688), (6, .slice p1692 s1677.2.1.length c1693), (7, .int .i64 s1677.2.2.1), (8, .int .i64 s2060), (37, .bool false)] (fun w_ => by kernel_rfl) (by kernel_rfl) ?_
                refine Z_end fun w2086 M2087 => ?_
                obtain rfl := Option.some.inj hm
                exact N_meet fun a ha => ⟨M2087.pick [0, 1] (by kernel_rfl), ha.sub (by kernel_rfl)⟩
            · intro a2090 w2088 ⟨M2089, hS2091⟩
              refine N_use hS2091 ?_
              have hm := hm2080
              refine N_then ?_
              rcases gx_bif hm with ⟨hc2092, hm⟩ | ⟨hc2092, hm⟩
              · refine G_cond_t (b := o2078) hc2092 (by kernel_rfl) ?_
                refine G_skip ?_
                refine N_then ?_
                refine G_block ?_
                refine G_region ?_
                refine W_run 3 [(0, .slice p167 x165.length c168), (5, .slice p1687 s1677.1.length c1688), (6, .slice p1692 s1677.2.1.length c1693), (7, .int .i64 s1677.2.2.1), (8, .int .i64 (w64 (s2060 + 1)))] w2088 (by kernel_rfl) ?_
                refine W_nil ?_
                refine N_block ?_
                obtain rfl := Option.some.inj hm
                exact N_loop fun a ha => ⟨_, rfl, M2089.pick [0, 1] (by kernel_rfl), ha.sub (by kernel_rfl)⟩
              · refine G_cond_f (b := o2078) hc2092 (by kernel_rfl) ?_
                refine G_exit ?_
                refine N_then_exit ?_
                refine N_then_exit ?_
                refine N_block_eq ?_
                obtain rfl := Option.some.inj hm
                obtain rfl := hout2062 _ rfl
                exact N_meet fun a ha => ⟨M2089.pick [0, 1] (by kernel_rfl), ha.sub (by kernel_rfl)⟩
          · intro a2093 w2094 ⟨M2095, hS2096⟩
            refine N_use hS2096 ?_
            have hm := hmo2069
            refine N_then ?_
            refine G_seq ?_
            refine G_seq ?_
            obtain ⟨o2104, ho2105, hm2106⟩ := gx_bind hm
            refine G_meet (fun a w' => Mem [] w w' [sg1689, sg1694] ∧ Sat Try.f36.ntmps [(0, .slice p167 x165.length c168), (5, .slice p1687 s1677.1.length c1688), (6, .slice p1692 s1677.2.1.length c1693), (7, .int .i64 s1677.2.2.1), (8, .int .i64 out2067), (55, .bool o2104)] a) ?_ ?_
            · have hm := ho2105
              refine G_quiet (by kernel_rfl) (by kernel_rfl) M2095 ?_
              refine Z_runs [.int .i64 out2067, .slice p1687 s1677.1.length c1688, .int .i64 (s1677.1.length : Int), .bool (decide (out2067 < (s1677.1.length : Int))), .bool (decide (out2067 < (s1677.1.length : Int)))] [(0, .slice p167 x165.length c168), (5, .slice p1687 s1677.1.length c1688), (6, .slice p1692 s1677.2.1.length c1693), (7, .int .i64 s1677.2.2.1), (8, .int .i64 out2067), (44, .bool (decide (out2067 < (s1677.1.length : Int))))] (fun w_ => by kernel_rfl) (by kernel_rfl) ?_
              rcases gx_bif hm with ⟨hc2107, hm⟩ | ⟨hc2107, hm⟩
              · refine Z_known 44 true (by kernel_rfl) hc2107 ?_
                refine Z_runs [.slice p1687 s1677.1.length c1688, .int .i64 out2067] [(0, .slice p167 x165.length c168), (5, .slice p1687 s1677.1.length c1688), (6, .slice p1692 s1677.2.1.length c1693), (7, .int .i64 s1677.2.2.1), (8, .int .i64 out2067), (44, .bool true), (45, .slice p1687 s1677.1.length c1688), (46, .int .i64 out2067)] (fun w_ => by kernel_rfl) (by kernel_rfl) ?_
                obtain ⟨y2108, hy2108, hm⟩ := gx_bind hm
                refine Z_val (elemP p1687 (out2067.toNat * 1)) (by kernel_rfl) (fun w_ M_ => (E_index (E := Gx.encS) _ _ _ s1677.1.length c1688 .i64 out2067 1 (y := y2108) rfl (by kernel_rfl) (by kernel_rfl) (by kernel_rfl) (ho1690.rd M_ 0 (by kernel_rfl)) rfl hy2108)) ?_
                refine Z_val (.string y2108) (by kernel_rfl) (fun w_ M_ => (E_loadE (E := Gx.encS) _ _ false 1 out2067 0 (out2067.toNat * 1) y2108 (.string y2108) rfl (by kernel_rfl) (by kernel_rfl) (by kernel_rfl) (ho1690.rd M_ 0 (by kernel_rfl)) hy2108 rfl)) ?_
                refine Z_runs [.slice p167 x165.length c168, .int .i64 s1677.2.2.1] [(0, .slice p167 x165.length c168), (5, .slice p1687 s1677.1.length c1688), (6, .slice p1692 s1677.2.1.length c1693), (7, .int .i64 s1677.2.2.1), (8, .int .i64 out2067), (44, .bool true), (48, .string y2108), (49, .slice p167 x165.length c168), (50, .int .i64 s1677.2.2.1)] (fun w_ => by kernel_rfl) (by kernel_rfl) ?_
                obtain ⟨y2109, hy2109, hm⟩ := gx_bind hm
                refine Z_val (elemP p167 (s1677.2.2.1.toNat * 4)) (by kernel_rfl) (fun w_ M_ => (E_index (E := encEvent) _ _ _ x165.length c168 .i64 s1677.2.2.1 4 (y := y2109) rfl (by kernel_rfl) (by kernel_rfl) (by kernel_rfl) (h169.mem0 M_) rfl hy2109)) ?_
                refine Z_val (elemP p167 (s1677.2.2.1.toNat * 4 + 2)) (by kernel_rfl) (fun w_ M_ => (E_fieldE (E := encEvent) _ _ 2 (s1677.2.2.1.toNat * 4) 2 rfl (by kernel_rfl) (by kernel_rfl) (h169.mem0 M_) hy2109)) ?_
                refine Z_val (.string y2109.Kind) (by kernel_rfl) (fun w_ M_ => (E_loadE (E := encEvent) _ _ false 1 s1677.2.2.1 2 (s1677.2.2.1.toNat * 4 + 2) y2109 (.string y2109.Kind) rfl (by kernel_rfl) (by kernel_rfl) (by kernel_rfl) (h169.mem0 M_) hy2109 rfl)) ?_
                refine Z_runs [.bool (y2108.toList == y2109.Kind.toList), .bool (y2108.toList == y2109.Kind.toList)] [(0, .slice p167 x165.length c168), (5, .slice p1687 s1677.1.length c1688), (6, .slice p1692 s1677.2.1.length c1693), (7, .int .i64 s1677.2.2.1), (8, .int .i64 out2067), (55, .bool (y2108.toList == y2109.Kind.toList))] (fun w_ => by kernel_rfl) (by kernel_rfl) ?_
                refine Z_end fun w2110 M2111 => ?_
                obtain rfl := Option.some.inj hm
                exact N_meet fun a ha => ⟨M2111.pick [0, 1] (by kernel_rfl), ha.sub (by kernel_rfl)⟩
              · refine Z_known 44 false (by kernel_rfl) hc2107 ?_
                refine Z_runs [undef, undef, undef, undef, undef, undef, undef, undef, undef, undef, .bool false] [(0, .slice p167 x165.length c168), (5, .slice p1687 s1677.1.length c1688), (6, .slice p1692 s1677.2.1.length c1693), (7, .int .i64 s1677.2.2.1), (8, .int .i64 out2067), (55, .bool false)] (fun w_ => by kernel_rfl) (by kernel_rfl) ?_
                refine Z_end fun w2112 M2113 => ?_
                obtain rfl := Option.some.inj hm
                exact N_meet fun a ha => ⟨M2113.pick [0, 1] (by kernel_rfl), ha.sub (by kernel_rfl)⟩
            · intro a2116 w2114 ⟨M2115, hS2117⟩
              refine N_use hS2117 ?_
              have hm := hm2106
              refine N_then ?_
              rcases gx_bif hm with ⟨hc2118, hm⟩ | ⟨hc2118, hm⟩
              · refine G_cond_t (b := o2104) hc2118 (by kernel_rfl) ?_
                refine G_seq ?_
                refine G_region ?_
                refine W_run 4 [(0, .slice p167 x165.length c168), (5, .slice p1687 s1677.1.length c1688), (6, .slice p1692 s1677.2.1.length c1693), (7, .int .i64 s1677.2.2.1), (56, .slice p1692 s1677.2.1.length c1693), (57, .int .i64 out2067), (58, .slice p1692 s1677.2.1.length c1693), (59, .int .i64 out2067)] w2114 (by kernel_rfl) ?_
                obtain ⟨y2119, hy2119, hm⟩ := gx_bind hm
                refine W_val (elemP p1692 (out2067.toNat * 1)) w2114 (by kernel_rfl) (E_index (E := Gx.encI) _ _ _ s1677.2.1.length c1693 .i64 out2067 1 (y := y2119) rfl (by kernel_rfl) (by kernel_rfl) (by kernel_rfl) (ho1695.rd M2115 1 (by kernel_rfl)) rfl hy2119) ?_
                refine W_val (.int .i64 y2119) w2114 (by kernel_rfl) (E_loadE (E := Gx.encI) _ _ false 1 out2067 0 (out2067.toNat * 1) y2119 (.int .i64 y2119) rfl (by kernel_rfl) (by kernel_rfl) (by kernel_rfl) (ho1695.rd M2115 1 (by kernel_rfl)) hy2119 rfl) ?_
                refine W_run 1 [(0, .slice p167 x165.length c168), (5, .slice p1687 s1677.1.length c1688), (6, .slice p1692 s1677.2.1.length c1693), (7, .int .i64 s1677.2.2.1), (56, .slice p1692 s1677.2.1.length c1693), (57, .int .i64 out2067), (62, .int .i64 (w64 (y2119 + 1)))] w2114 (by kernel_rfl) ?_
                obtain ⟨y2120, hy2120, hm⟩ := gx_bind hm
                refine W_val (elemP p1692 (out2067.toNat * 1)) w2114 (by kernel_rfl) (E_index (E := Gx.encI) _ _ _ s1677.2.1.length c1693 .i64 out2067 1 (y := y2120) rfl (by kernel_rfl) (by kernel_rfl) (by kernel_rfl) (ho1695.rd M2115 1 (by kernel_rfl)) rfl hy2120) ?_
                refine W_storeE (E := Gx.encI) _ _ _ false 1 out2067.toNat 0 (out2067.toNat * 1) y2120 (w64 (y2119 + 1)) (.int .i64 (w64 (y2119 + 1))) 1 M2115 ho1695 (by kernel_rfl) (by kernel_rfl) rfl (by kernel_rfl) (by kernel_rfl) (by kernel_rfl) (by kernel_rfl) (by kernel_rfl) (by kernel_rfl) (by kernel_rfl) (gxIdx_spec hy2120).2 rfl ?_
                intro w2121 sg2123 ho2124 M2122
                refine W_conv 6 (.slice p1692 s1677.2.1.length c1693) (.slice p1692 (s1677.2.1.set out2067.toNat (w64 (y2119 + 1))).length c1693) (by kernel_rfl) (by rw [@List.length_set _ s1677.2.1 out2067.toNat (w64 (y2119 + 1))]) ?_
                refine W_conv 56 (.slice p1692 s1677.2.1.length c1693) (.slice p1692 (s1677.2.1.set out2067.toNat (w64 (y2119 + 1))).length c1693) (by kernel_rfl) (by rw [@List.length_set _ s1677.2.1 out2067.toNat (w64 (y2119 + 1))]) ?_
                refine W_nil ?_
                refine N_then ?_
                refine G_exit ?_
                refine N_then_exit ?_
                refine N_block_eq ?_
                obtain rfl := Option.some.inj hm
                exact N_meet fun a ha => ⟨p1687, c1688, sg1689, p1692, c1693, sg2123, sg2123, ho1690, ho2124, ho2124, M2122.pick [0, 1] (by kernel_rfl), ha.sub (by kernel_rfl)⟩
              · refine G_cond_f (b := o2104) hc2118 (by kernel_rfl) ?_
                refine G_skip ?_
                refine N_then ?_
                refine G_seq ?_
                obtain ⟨ys2132, hys2132, hm⟩ := gx_bind hm
                obtain ⟨ap2134, hap2134, hm⟩ := gx_bind hm
                obtain ⟨y2140, hy2140, hm⟩ := gx_bind hm
                obtain ⟨ap2146, hap2146, hm⟩ := gx_bind hm
                obtain ⟨ys2152, hys2152, hm⟩ := gx_bind hm
                refine G_sub [(0, .slice p167 x165.length c168), (5, .slice p1687 s1677.1.length c1688), (6, .slice p1692 s1677.2.1.length c1693), (7, .int .i64 s1677.2.2.1), (8, .int .i64 out2067), (55, .bool o2104)] (by kernel_rfl) ?_
                refine G_dagL 15 [[], [], [], [1, 2], [0, 3], [], [], [5, 6], [7], [8], [9], [4, 10], [], [], [12, 13]] [[], [], [], [], [0], [], [], [], [], [], [], [4], [], [], []] [[], [], [], [], [], [], [], [], [], [], [], [10], [], [], []] [[], [], [], [], [], [], [], [], [], [], [], [], [], [], []] [[], [], [], [], [], [], [], [], [], [], [], [], [], [], []] [[], [], [], [], [], [], [], [], [], [], [], [], [], [], []] (fun _ => []) (fun i => ([fun f v s => ∃ (p2128 : Option Addr) (c2129 : Nat), v = (.slice p2128 ([] : List ByteArray).length c2129 : Value) ∧ ownS Gx.encS ([] : List ByteArray) p2128 c2129 s, fun f v s => v = (.slice p1687 s1677.1.length c1688 : Value) ∧ s = [], fun f v s => v = (.int .i64 out2067 : Value) ∧ s = [], fun f v s => v = (.slice (subP p1687 (0 : Int).toNat c1688 1) ys2132.length (c1688 - (0 : Int).toNat) : Value) ∧ s = [], fun f v s => ∃ (p2136 : Option Addr) (c2137 : Nat), v = (.slice p2136 ap2134.length c2137 : Value) ∧ ownS Gx.encS ap2134 p2136 c2137 s, fun f v s => v = (.slice p167 x165.length c168 : Value) ∧ s = [], fun f v s => v = (.int .i64 s1677.2.2.1 : Value) ∧ s = [], fun f v s => v = (elemP p167 (s1677.2.2.1.toNat * 4) : Value) ∧ s = [], fun f v s => v = (elemP p167 (s1677.2.2.1.toNat * 4 + 2) : Value) ∧ s = [], fun f v s => v = (.string y2140.Kind : Value) ∧ s = [], fun f v s => ∃ (p2142 : Option Addr) (c2143 : Nat), v = (.slice p2142 [y2140.Kind].length c2143 : Value) ∧ ownS Gx.encS [y2140.Kind] p2142 c2143 s, fun f v s => ∃ (p2148 : Option Addr) (c2149 : Nat), v = (.slice p2148 ap2146.length c2149 : Value) ∧ ownS Gx.encS ap2146 p2148 c2149 s, fun f v s => v = (.slice p1687 s1677.1.length c1688 : Value) ∧ s = [], fun f v s => v = (.int .i64 out2067 : Value) ∧ s = [], fun f v s => v = (.slice (subP p1687 out2067.toNat c1688 1) ys2152.length (c1688 - out2067.toNat) : Value) ∧ s = []] : List ((Nat → Value) → Value → Seg → Prop)).getD i (fun _ _ _ => False)) (fun j f v => ∃ s, (fun i => ([fun f v s => ∃ (p2128 : Option Addr) (c2129 : Nat), v = (.slice p2128 ([] : List ByteArray).length c2129 : Value) ∧ ownS Gx.encS ([] : List ByteArray) p2128 c2129 s, fun f v s => v = (.slice p1687 s1677.1.length c1688 : Value) ∧ s = [], fun f v s => v = (.int .i64 out2067 : Value) ∧ s = [], fun f v s => v = (.slice (subP p1687 (0 : Int).toNat c1688 1) ys2132.length (c1688 - (0 : Int).toNat) : Value) ∧ s = [], fun f v s => ∃ (p2136 : Option Addr) (c2137 : Nat), v = (.slice p2136 ap2134.length c2137 : Value) ∧ ownS Gx.encS ap2134 p2136 c2137 s, fun f v s => v = (.slice p167 x165.length c168 : Value) ∧ s = [], fun f v s => v = (.int .i64 s1677.2.2.1 : Value) ∧ s = [], fun f v s => v = (elemP p167 (s1677.2.2.1.toNat * 4) : Value) ∧ s = [], fun f v s => v = (elemP p167 (s1677.2.2.1.toNat * 4 + 2) : Value) ∧ s = [], fun f v s => v = (.string y2140.Kind : Value) ∧ s = [], fun f v s => ∃ (p2142 : Option Addr) (c2143 : Nat), v = (.slice p2142 [y2140.Kind].length c2143 : Value) ∧ ownS Gx.encS [y2140.Kind] p2142 c2143 s, fun f v s => ∃ (p2148 : Option Addr) (c2149 : Nat), v = (.slice p2148 ap2146.length c2149 : Value) ∧ ownS Gx.encS ap2146 p2148 c2149 s, fun f v s => v = (.slice p1687 s1677.1.length c1688 : Value) ∧ s = [], fun f v s => v = (.int .i64 out2067 : Value) ∧ s = [], fun f v s => v = (.slice (subP p1687 out2067.toNat c1688 1) ys2152.length (c1688 - out2067.toNat) : Value) ∧ s = []] : List ((Nat → Value) → Value → Seg → Prop)).getD i (fun _ _ _ => False)) j f v s) [] [10, 11, 14] [10, 11] (fun _ _ _ s h => ⟨s, h⟩) (by kernel_rfl) (by kernel_rfl) (M2115.preNil 15) (by kernel_rfl) (by kernel_rfl) (by kernel_rfl) (by kernel_rfl) (allOb_cons ?_ (allOb_cons ?_ (allOb_cons ?_ (allOb_cons ?_ (allOb_cons ?_ (allOb_cons ?_ (allOb_cons ?_ (allOb_cons ?_ (allOb_cons ?_ (allOb_cons ?_ (allOb_cons ?_ (allOb_cons ?_ (allOb_cons ?_ (allOb_cons ?_ (allOb_cons ?_ allOb_nil))))))))))))))) ?_
                · intro g2125 f2126
                  intro R w2154 M2155
                  refine W_lit (E := Gx.encS) ([] : List ByteArray) 0 [] 9 M2155 (by kernel_rfl) (by kernel_rfl) (by kernel_rfl) (by kernel_rfl) (by kernel_rfl) ?_
                  intro p2128 c2129 sg2130 w2156 ho2131 M2157
                  exact W_nil (ob_end (.slice p2128 ([] : List ByteArray).length c2129) sg2130 rfl (by kernel_rfl) ⟨p2128, c2129, rfl, ho2131⟩ (Mem.mid M2157))
                · intro g2125 f2126
                  intro R w2158 M2159
                  refine W_run 1 [(65, .slice p1687 s1677.1.length c1688)] w2158 (by kernel_rfl) ?_
                  exact W_nil (ob_end (.slice p1687 s1677.1.length c1688) [] rfl (by kernel_rfl) ⟨by kernel_rfl, rfl⟩ M2159)
                · intro g2125 f2126
                  intro R w2162 M2163
                  refine W_run 1 [(66, .int .i64 out2067)] w2162 (by kernel_rfl) ?_
                  exact W_nil (ob_end (.int .i64 out2067) [] rfl (by kernel_rfl) ⟨by kernel_rfl, rfl⟩ M2163)
                · intro g2125 f2126
                  intro v1_ hb1_
                  obtain ⟨rfl, _⟩ := hb1_
                  intro v2_ hb2_
                  obtain ⟨rfl, _⟩ := hb2_
                  intro R w2166 M2167
                  refine W_val (.slice (subP p1687 (0 : Int).toNat c1688 1) ys2132.length (c1688 - (0 : Int).toNat)) w2166 (by kernel_rfl) (E_slice (E := Gx.encS) _ _ _ _ s1677.1.length 0 out2067 rfl (by kernel_rfl) (Or.inl ⟨rfl, rfl⟩) (Or.inr ⟨_, rfl, by kernel_rfl⟩) (by kernel_rfl) (ho1690.rd M2167 0 (by kernel_rfl)) rfl hys2132) ?_
                  exact W_nil (ob_end (.slice (subP p1687 (0 : Int).toNat c1688 1) ys2132.length (c1688 - (0 : Int).toNat)) [] rfl (by kernel_rfl) ⟨by kernel_rfl, rfl⟩ M2167)
                · intro g2125 f2126
                  intro v0_ hb0_
                  obtain ⟨p2128, c2129, rfl, ho2131⟩ := hb0_
                  intro v3_ hb3_
                  obtain ⟨rfl, _⟩ := hb3_
                  intro R w2170 M2171
                  refine W_append (E := Gx.encS) _ _ _ 16 [.string ByteArray.empty] 3 (c1688 - (0 : Int).toNat) M2171 ho2131 (by kernel_rfl) (by kernel_rfl) (by kernel_rfl) rfl (by kernel_rfl) (by kernel_rfl) (by kernel_rfl) (by kernel_rfl) (by kernel_rfl) (by kernel_rfl) ((ho1690.rd M2171 0 (by kernel_rfl)).sliceM hys2132) hap2134 ?_
                  intro p2136 c2137 sg2138 w2172 ho2139 M2173
                  exact W_nil (ob_end (.slice p2136 ap2134.length c2137) sg2138 rfl (by kernel_rfl) ⟨p2136, c2137, rfl, ho2139⟩ (Mem.takeOver M2173))
                · intro g2125 f2126
                  intro R w2174 M2175
                  refine W_run 1 [(69, .slice p167 x165.length c168)] w2174 (by kernel_rfl) ?_
                  exact W_nil (ob_end (.slice p167 x165.length c168) [] rfl (by kernel_rfl) ⟨by kernel_rfl, rfl⟩ M2175)
                · intro g2125 f2126
                  intro R w2178 M2179
                  refine W_run 1 [(70, .int .i64 s1677.2.2.1)] w2178 (by kernel_rfl) ?_
                  exact W_nil (ob_end (.int .i64 s1677.2.2.1) [] rfl (by kernel_rfl) ⟨by kernel_rfl, rfl⟩ M2179)
                · intro g2125 f2126
                  intro v5_ hb5_
                  obtain ⟨rfl, _⟩ := hb5_
                  intro v6_ hb6_
                  obtain ⟨rfl, _⟩ := hb6_
                  intro R w2182 M2183
                  refine W_val (elemP p167 (s1677.2.2.1.toNat * 4)) w2182 (by kernel_rfl) (E_index (E := encEvent) _ _ _ x165.length c168 .i64 s1677.2.2.1 4 (y := y2140) rfl (by kernel_rfl) (by kernel_rfl) (by kernel_rfl) (h169.mem0 M2183) rfl hy2140) ?_
                  exact W_nil (ob_end (elemP p167 (s1677.2.2.1.toNat * 4)) [] rfl (by kernel_rfl) ⟨by kernel_rfl, rfl⟩ M2183)
                · intro g2125 f2126
                  intro v7_ hb7_
                  obtain ⟨rfl, _⟩ := hb7_
                  intro R w2186 M2187
                  refine W_val (elemP p167 (s1677.2.2.1.toNat * 4 + 2)) w2186 (by kernel_rfl) (E_fieldE (E := encEvent) _ _ 2 (s1677.2.2.1.toNat * 4) 2 rfl (by kernel_rfl) (by kernel_rfl) (h169.mem0 M2187) hy2140) ?_
                  exact W_nil (ob_end (elemP p167 (s1677.2.2.1.toNat * 4 + 2)) [] rfl (by kernel_rfl) ⟨by kernel_rfl, rfl⟩ M2187)
                · intro g2125 f2126
                  intro v8_ hb8_
                  obtain ⟨rfl, _⟩ := hb8_
                  intro R w2190 M2191
                  refine W_val (.string y2140.Kind) w2190 (by kernel_rfl) (E_loadE (E := encEvent) _ _ false 1 s1677.2.2.1 2 (s1677.2.2.1.toNat * 4 + 2) y2140 (.string y2140.Kind) rfl (by kernel_rfl) (by kernel_rfl) (by kernel_rfl) (h169.mem0 M2191) hy2140 rfl) ?_
                  exact W_nil (ob_end (.string y2140.Kind) [] rfl (by kernel_rfl) ⟨by kernel_rfl, rfl⟩ M2191)
                · intro g2125 f2126
                  intro v9_ hb9_
                  obtain ⟨rfl, _⟩ := hb9_
                  intro R w2194 M2195
                  refine W_lit (E := Gx.encS) [y2140.Kind] 1 [.string y2140.Kind] 9 M2195 (by kernel_rfl) (by kernel_rfl) (by kernel_rfl) (by kernel_rfl) (by kernel_rfl) ?_
                  intro p2142 c2143 sg2144 w2196 ho2145 M2197
                  exact W_nil (ob_end (.slice p2142 [y2140.Kind].length c2143) sg2144 rfl (by kernel_rfl) ⟨p2142, c2143, rfl, ho2145⟩ (Mem.mid M2197))
                · intro g2125 f2126
                  intro v4_ hb4_
                  obtain ⟨p2136, c2137, rfl, ho2139⟩ := hb4_
                  intro v10_ hb10_
                  obtain ⟨p2142, c2143, rfl, ho2145⟩ := hb10_
                  intro R w2198 M2199
                  refine W_append (E := Gx.encS) _ _ _ 16 [.string ByteArray.empty] 3 c2143 M2199 ho2139 (by kernel_rfl) (by kernel_rfl) (by kernel_rfl) rfl (by kernel_rfl) (by kernel_rfl) (by kernel_rfl) (by kernel_rfl) (by kernel_rfl) (by kernel_rfl) (ho2145.rd M2199 4 (by kernel_rfl)) hap2146 ?_
                  intro p2148 c2149 sg2150 w2200 ho2151 M2201
                  exact W_nil (ob_end (.slice p2148 ap2146.length c2149) sg2150 rfl (by kernel_rfl) ⟨p2148, c2149, rfl, ho2151⟩ (Mem.takeOver M2201))
                · intro g2125 f2126
                  intro R w2202 M2203
                  refine W_run 1 [(76, .slice p1687 s1677.1.length c1688)] w2202 (by kernel_rfl) ?_
                  exact W_nil (ob_end (.slice p1687 s1677.1.length c1688) [] rfl (by kernel_rfl) ⟨by kernel_rfl, rfl⟩ M2203)
                · intro g2125 f2126
                  intro R w2206 M2207
                  refine W_run 1 [(77, .int .i64 out2067)] w2206 (by kernel_rfl) ?_
                  exact W_nil (ob_end (.int .i64 out2067) [] rfl (by kernel_rfl) ⟨by kernel_rfl, rfl⟩ M2207)
                · intro g2125 f2126
                  intro v12_ hb12_
                  obtain ⟨rfl, _⟩ := hb12_
                  intro v13_ hb13_
                  obtain ⟨rfl, _⟩ := hb13_
                  intro R w2210 M2211
                  refine W_val (.slice (subP p1687 out2067.toNat c1688 1) ys2152.length (c1688 - out2067.toNat)) w2210 (by kernel_rfl) (E_slice (E := Gx.encS) _ _ _ _ s1677.1.length out2067 (s1677.1.length : Int) rfl (by kernel_rfl) (Or.inr ⟨_, rfl, by kernel_rfl⟩) (Or.inl ⟨rfl, rfl⟩) (by kernel_rfl) (ho1690.rd M2211 0 (by kernel_rfl)) rfl hys2152) ?_
                  exact W_nil (ob_end (.slice (subP p1687 out2067.toNat c1688 1) ys2152.length (c1688 - out2067.toNat)) [] rfl (by kernel_rfl) ⟨by kernel_rfl, rfl⟩ M2211)
                · intro g2125 f2126
                  intro v10_ hb10_
                  obtain ⟨p2142, c2143, rfl, ho2145⟩ := hb10_
                  intro v11_ hb11_
                  obtain ⟨p2148, c2149, rfl, ho2151⟩ := hb11_
                  intro v14_ hb14_
                  obtain ⟨rfl, _⟩ := hb14_
                  intro w2214 M2215
                  have M2216 : Mem [] w w2214 [sg1689, sg1694, (g2125 10), (g2125 11)] := M2215
                  obtain ⟨ap2217, hap2217, hm⟩ := gx_bind hm
                  refine W_append (E := Gx.encS) _ _ _ 16 [.string ByteArray.empty] 3 (c1688 - out2067.toNat) M2216 ho2151 (by kernel_rfl) (by kernel_rfl) (by kernel_rfl) rfl (by kernel_rfl) (by kernel_rfl) (by kernel_rfl) (by kernel_rfl) (by kernel_rfl) (by kernel_rfl) ((ho1690.rd M2216 0 (by kernel_rfl)).sliceM hys2152) hap2217 ?_
                  intro p2218 c2219 sg2220 w2221 ho2222 M2223
                  refine W_run 1 [(0, .slice p167 x165.length c168), (5, .slice p2218 ap2217.length c2219), (6, .slice p1692 s1677.2.1.length c1693), (7, .int .i64 s1677.2.2.1), (8, .int .i64 out2067)] w2221 (by kernel_rfl) ?_
                  refine W_nil ?_
                  refine N_then ?_
                  obtain ⟨ys2232, hys2232, hm⟩ := gx_bind hm
                  obtain ⟨ap2234, hap2234, hm⟩ := gx_bind hm
                  obtain ⟨ap2245, hap2245, hm⟩ := gx_bind hm
                  obtain ⟨ys2251, hys2251, hm⟩ := gx_bind hm
                  refine G_sub [(0, .slice p167 x165.length c168), (5, .slice p2218 ap2217.length c2219), (6, .slice p1692 s1677.2.1.length c1693), (7, .int .i64 s1677.2.2.1), (8, .int .i64 out2067)] (by kernel_rfl) ?_
                  refine G_dagL 10 [[], [], [], [1, 2], [0, 3], [], [4, 5], [], [], [7, 8]] [[], [], [], [], [0], [], [4], [], [], []] [[], [], [], [], [], [], [5], [], [], []] [[], [], [], [], [], [], [], [], [], []] [[], [], [], [], [], [], [], [], [], []] [[], [], [], [], [], [], [], [], [], []] (fun _ => []) (fun i => ([fun f v s => ∃ (p2228 : Option Addr) (c2229 : Nat), v = (.slice p2228 ([] : List Int).length c2229 : Value) ∧ ownS Gx.encI ([] : List Int) p2228 c2229 s, fun f v s => v = (.slice p1692 s1677.2.1.length c1693 : Value) ∧ s = [], fun f v s => v = (.int .i64 out2067 : Value) ∧ s = [], fun f v s => v = (.slice (subP p1692 (0 : Int).toNat c1693 1) ys2232.length (c1693 - (0 : Int).toNat) : Value) ∧ s = [], fun f v s => ∃ (p2236 : Option Addr) (c2237 : Nat), v = (.slice p2236 ap2234.length c2237 : Value) ∧ ownS Gx.encI ap2234 p2236 c2237 s, fun f v s => ∃ (p2241 : Option Addr) (c2242 : Nat), v = (.slice p2241 [1].length c2242 : Value) ∧ ownS Gx.encI [1] p2241 c2242 s, fun f v s => ∃ (p2247 : Option Addr) (c2248 : Nat), v = (.slice p2247 ap2245.length c2248 : Value) ∧ ownS Gx.encI ap2245 p2247 c2248 s, fun f v s => v = (.slice p1692 s1677.2.1.length c1693 : Value) ∧ s = [], fun f v s => v = (.int .i64 out2067 : Value) ∧ s = [], fun f v s => v = (.slice (subP p1692 out2067.toNat c1693 1) ys2251.length (c1693 - out2067.toNat) : Value) ∧ s = []] : List ((Nat → Value) → Value → Seg → Prop)).getD i (fun _ _ _ => False)) (fun j f v => ∃ s, (fun i => ([fun f v s => ∃ (p2228 : Option Addr) (c2229 : Nat), v = (.slice p2228 ([] : List Int).length c2229 : Value) ∧ ownS Gx.encI ([] : List Int) p2228 c2229 s, fun f v s => v = (.slice p1692 s1677.2.1.length c1693 : Value) ∧ s = [], fun f v s => v = (.int .i64 out2067 : Value) ∧ s = [], fun f v s => v = (.slice (subP p1692 (0 : Int).toNat c1693 1) ys2232.length (c1693 - (0 : Int).toNat) : Value) ∧ s = [], fun f v s => ∃ (p2236 : Option Addr) (c2237 : Nat), v = (.slice p2236 ap2234.length c2237 : Value) ∧ ownS Gx.encI ap2234 p2236 c2237 s, fun f v s => ∃ (p2241 : Option Addr) (c2242 : Nat), v = (.slice p2241 [1].length c2242 : Value) ∧ ownS Gx.encI [1] p2241 c2242 s, fun f v s => ∃ (p2247 : Option Addr) (c2248 : Nat), v = (.slice p2247 ap2245.length c2248 : Value) ∧ ownS Gx.encI ap2245 p2247 c2248 s, fun f v s => v = (.slice p1692 s1677.2.1.length c1693 : Value) ∧ s = [], fun f v s => v = (.int .i64 out2067 : Value) ∧ s = [], fun f v s => v = (.slice (subP p1692 out2067.toNat c1693 1) ys2251.length (c1693 - out2067.toNat) : Value) ∧ s = []] : List ((Nat → Value) → Value → Seg → Prop)).getD i (fun _ _ _ => False)) j f v s) [] [5, 6, 9] [5, 6] (fun _ _ _ s h => ⟨s, h⟩) (by kernel_rfl) (by kernel_rfl) (M2223.preNil 10) (by kernel_rfl) (by kernel_rfl) (by kernel_rfl) (by kernel_rfl) (allOb_cons ?_ (allOb_cons ?_ (allOb_cons ?_ (allOb_cons ?_ (allOb_cons ?_ (allOb_cons ?_ (allOb_cons ?_ (allOb_cons ?_ (allOb_cons ?_ (allOb_cons ?_ allOb_nil)))))))))) ?_
                  · intro g2225 f2226
                    intro R w2253 M2254
                    refine W_lit (E := Gx.encI) ([] : List Int) 0 [] 3 M2254 (by kernel_rfl) (by kernel_rfl) (by kernel_rfl) (by kernel_rfl) (by kernel_rfl) ?_
                    intro p2228 c2229 sg2230 w2255 ho2231 M2256
                    exact W_nil (ob_end (.slice p2228 ([] : List Int).length c2229) sg2230 rfl (by kernel_rfl) ⟨p2228, c2229, rfl, ho2231⟩ (Mem.mid M2256))
                  · intro g2225 f2226
                    intro R w2257 M2258
                    refine W_run 1 [(81, .slice p1692 s1677.2.1.length c1693)] w2257 (by kernel_rfl) ?_
                    exact W_nil (ob_end (.slice p1692 s1677.2.1.length c1693) [] rfl (by kernel_rfl) ⟨by kernel_rfl, rfl⟩ M2258)
                  · intro g2225 f2226
                    intro R w2261 M2262
                    refine W_run 1 [(82, .int .i64 out2067)] w2261 (by kernel_rfl) ?_
                    exact W_nil (ob_end (.int .i64 out2067) [] rfl (by kernel_rfl) ⟨by kernel_rfl, rfl⟩ M2262)
                  · intro g2225 f2226
                    intro v1_ hb1_
                    obtain ⟨rfl, _⟩ := hb1_
                    intro v2_ hb2_
                    obtain ⟨rfl, _⟩ := hb2_
                    intro R w2265 M2266
                    refine W_val (.slice (subP p1692 (0 : Int).toNat c1693 1) ys2232.length (c1693 - (0 : Int).toNat)) w2265 (by kernel_rfl) (E_slice (E := Gx.encI) _ _ _ _ s1677.2.1.length 0 out2067 rfl (by kernel_rfl) (Or.inl ⟨rfl, rfl⟩) (Or.inr ⟨_, rfl, by kernel_rfl⟩) (by kernel_rfl) (ho1695.rd M2266 1 (by kernel_rfl)) rfl hys2232) ?_
                    exact W_nil (ob_end (.slice (subP p1692 (0 : Int).toNat c1693 1) ys2232.length (c1693 - (0 : Int).toNat)) [] rfl (by kernel_rfl) ⟨by kernel_rfl, rfl⟩ M2266)
                  · intro g2225 f2226
                    intro v0_ hb0_
                    obtain ⟨p2228, c2229, rfl, ho2231⟩ := hb0_
                    intro v3_ hb3_
                    obtain ⟨rfl, _⟩ := hb3_
                    intro R w2269 M2270
                    refine W_append (E := Gx.encI) _ _ _ 8 [.int .i64 0] 5 (c1693 - (0 : Int).toNat) M2270 ho2231 (by kernel_rfl) (by kernel_rfl) (by kernel_rfl) rfl (by kernel_rfl) (by kernel_rfl) (by kernel_rfl) (by kernel_rfl) (by kernel_rfl) (by kernel_rfl) ((ho1695.rd M2270 1 (by kernel_rfl)).sliceM hys2232) hap2234 ?_
                    intro p2236 c2237 sg2238 w2271 ho2239 M2272
                    exact W_nil (ob_end (.slice p2236 ap2234.length c2237) sg2238 rfl (by kernel_rfl) ⟨p2236, c2237, rfl, ho2239⟩ (Mem.takeOver M2272))
                  · intro g2225 f2226
                    intro R w2273 M2274
                    refine W_lit (E := Gx.encI) [1] 1 [.int .i64 1] 3 M2274 (by kernel_rfl) (by kernel_rfl) (by kernel_rfl) (by kernel_rfl) (by kernel_rfl) ?_
                    intro p2241 c2242 sg2243 w2275 ho2244 M2276
                    exact W_nil (ob_end (.slice p2241 [1].length c2242) sg2243 rfl (by kernel_rfl) ⟨p2241, c2242, rfl, ho2244⟩ (Mem.mid M2276))
                  · intro g2225 f2226
                    intro v4_ hb4_
                    obtain ⟨p2236, c2237, rfl, ho2239⟩ := hb4_
                    intro v5_ hb5_
                    obtain ⟨p2241, c2242, rfl, ho2244⟩ := hb5_
                    intro R w2277 M2278
                    refine W_append (E := Gx.encI) _ _ _ 8 [.int .i64 0] 5 c2242 M2278 ho2239 (by kernel_rfl) (by kernel_rfl) (by kernel_rfl) rfl (by kernel_rfl) (by kernel_rfl) (by kernel_rfl) (by kernel_rfl) (by kernel_rfl) (by kernel_rfl) (ho2244.rd M2278 6 (by kernel_rfl)) hap2245 ?_
                    intro p2247 c2248 sg2249 w2279 ho2250 M2280
                    exact W_nil (ob_end (.slice p2247 ap2245.length c2248) sg2249 rfl (by kernel_rfl) ⟨p2247, c2248, rfl, ho2250⟩ (Mem.takeOver M2280))
                  · intro g2225 f2226
                    intro R w2281 M2282
                    refine W_run 1 [(87, .slice p1692 s1677.2.1.length c1693)] w2281 (by kernel_rfl) ?_
                    exact W_nil (ob_end (.slice p1692 s1677.2.1.length c1693) [] rfl (by kernel_rfl) ⟨by kernel_rfl, rfl⟩ M2282)
                  · intro g2225 f2226
                    intro R w2285 M2286
                    refine W_run 1 [(88, .int .i64 out2067)] w2285 (by kernel_rfl) ?_
                    exact W_nil (ob_end (.int .i64 out2067) [] rfl (by kernel_rfl) ⟨by kernel_rfl, rfl⟩ M2286)
                  · intro g2225 f2226
                    intro v7_ hb7_
                    obtain ⟨rfl, _⟩ := hb7_
                    intro v8_ hb8_
                    obtain ⟨rfl, _⟩ := hb8_
                    intro R w2289 M2290
                    refine W_val (.slice (subP p1692 out2067.toNat c1693 1) ys2251.length (c1693 - out2067.toNat)) w2289 (by kernel_rfl) (E_slice (E := Gx.encI) _ _ _ _ s1677.2.1.length out2067 (s1677.2.1.length : Int) rfl (by kernel_rfl) (Or.inr ⟨_, rfl, by kernel_rfl⟩) (Or.inl ⟨rfl, rfl⟩) (by kernel_rfl) (ho1695.rd M2290 1 (by kernel_rfl)) rfl hys2251) ?_
                    exact W_nil (ob_end (.slice (subP p1692 out2067.toNat c1693 1) ys2251.length (c1693 - out2067.toNat)) [] rfl (by kernel_rfl) ⟨by kernel_rfl, rfl⟩ M2290)
                  · intro g2225 f2226
                    intro v5_ hb5_
                    obtain ⟨p2241, c2242, rfl, ho2244⟩ := hb5_
                    intro v6_ hb6_
                    obtain ⟨p2247, c2248, rfl, ho2250⟩ := hb6_
                    intro v9_ hb9_
                    obtain ⟨rfl, _⟩ := hb9_
                    intro w2293 M2294
                    have M2295 : Mem [] w w2293 [sg1689, sg1694, (g2125 10), sg2220, (g2225 5), (g2225 6)] := M2294
                    obtain ⟨ap2296, hap2296, hm⟩ := gx_bind hm
                    refine W_append (E := Gx.encI) _ _ _ 8 [.int .i64 0] 5 (c1693 - out2067.toNat) M2295 ho2250 (by kernel_rfl) (by kernel_rfl) (by kernel_rfl) rfl (by kernel_rfl) (by kernel_rfl) (by kernel_rfl) (by kernel_rfl) (by kernel_rfl) (by kernel_rfl) ((ho1695.rd M2295 1 (by kernel_rfl)).sliceM hys2251) hap2296 ?_
                    intro p2297 c2298 sg2299 w2300 ho2301 M2302
                    refine W_run 1 [(0, .slice p167 x165.length c168), (5, .slice p2218 ap2217.length c2219), (6, .slice p2297 ap2296.length c2298), (7, .int .i64 s1677.2.2.1)] w2300 (by kernel_rfl) ?_
                    refine W_nil ?_
                    refine N_block ?_
                    obtain rfl := Option.some.inj hm
                    exact N_meet fun a ha => ⟨p2218, c2219, sg2220, p2297, c2298, sg2299, sg1694, ho2222, ho2301, ho1695, M2302.pick [3, 5] (by kernel_rfl), ha.sub (by kernel_rfl)⟩
        · intro a2306 w2304 ⟨p2004, c2005, sg2006, p2009, c2010, sg2011, sg2014, ho2007, ho2012, ho2015, M2305, hS2307⟩
          refine N_use hS2307 ?_
          have hm := hm2003
          refine N_then ?_
          refine G_region ?_
          refine W_run 3 [(0, .slice p167 x165.length c168), (5, .slice p2004 o2001.1.length c2005), (6, .slice p2009 o2001.2.1.length c2010), (7, .int .i64 (w64 (s1677.2.2.1 + 1)))] w2304 (by kernel_rfl) ?_
          refine W_nil ?_
          obtain rfl := Option.some.inj hm
          exact N_loop fun a ha => ⟨_, rfl, p2004, c2005, sg2006, p2009, c2010, sg2011, sg1697, ho2007, ho2012, ho1698, M2305.pick [0, 1] (by kernel_rfl), ha.sub (by kernel_rfl)⟩
      · refine G_cond_f (b := (decide (s1677.2.2.1 < (x165.length : Int)))) hc1712 (by kernel_rfl) ?_
        refine G_exit ?_
        refine N_then_exit ?_
        refine N_then_exit ?_
        refine N_block_eq ?_
        obtain rfl := Option.some.inj hm
        obtain rfl := hout1679 _ rfl
        exact N_meet fun a ha => ⟨p1687, c1688, sg1689, p1692, c1693, sg1694, sg1697, ho1690, ho1695, ho1698, M1682.pick [0, 1] (by kernel_rfl), ha.sub (by kernel_rfl)⟩
    · intro a2308 w2309 ⟨p1700, c1701, sg1702, p1705, c1706, sg1707, sg1710, ho1703, ho1708, ho1711, M2310, hS2311⟩
      refine N_use hS2311 ?_
      have hm := hmo1686
      refine N_then ?_
      refine G_seq ?_
      refine G_region ?_
      refine W_run 5 [(2, .slice p1700 out1684.1.length c1701), (3, .slice p1705 out1684.2.1.length c1706), (4, .bool true)] w2309 (by kernel_rfl) ?_
      refine W_nil ?_
      refine N_then ?_
      refine G_ret ?_
      obtain rfl := Option.some.inj hm
      refine N_ret [.slice p1700 out1684.1.length c1701, .slice p1705 out1684.2.1.length c1706, .bool true] (RVs_cons (RV_tmp (by kernel_rfl)) (RVs_cons (RV_tmp (by kernel_rfl)) (RVs_cons (RV_tmp (by kernel_rfl)) RVs_nil))) ?_
      exact ⟨p1700, c1701, sg1702, p1705, c1706, sg1707, rfl, ho1703, ho1708, M2310.pick [0, 1] (by kernel_rfl)⟩
theorem c_i_inside (w : World) (x2369 : Int) (x2370 : Int) (x2371 : Int) {r : Bool} (hm : M.i_inside x2369 x2370 x2371 = some r) :
    Calls Try.prog 67 #[.int .i64 x2369, .int .i64 x2370, .int .i64 x2371] w fun e w' => e = .returned (.bool r) ∧ Mem [] w w' [] := by
  unfold M.i_inside at hm
  refine C_enter Try.func67 rfl (by kernel_rfl) ?_
  have M0 := Mem.refl [] w
  refine G_seq ?_
  refine G_region ?_
  refine W_run 1 [(0, .int .i64 x2369), (1, .int .i64 x2370), (2, .int .i64 x2371)] w (by kernel_rfl) ?_
  refine W_nil ?_
  refine N_then ?_
  refine G_seq ?_
  obtain ⟨o2373, ho2374, hm2375⟩ := gx_bind hm
  refine G_meet (fun a w' => Mem [] w w' [] ∧ Sat Try.f67.ntmps [(6, .bool o2373)] a) ?_ ?_
  · have hm := ho2374
    refine G_region ?_
    refine W_run 4 [(0, .int .i64 x2369), (2, .int .i64 x2371), (10, .bool (decide (x2369 ≥ x2370)))] w (by kernel_rfl) ?_
    rcases gx_bif hm with ⟨hc2376, hm⟩ | ⟨hc2376, hm⟩
    · refine W_known 10 true (by kernel_rfl) hc2376 ?_
      refine W_run 5 [(6, .bool (decide (x2369 ≤ x2371)))] w (by kernel_rfl) ?_
      refine W_nil ?_
      obtain rfl := Option.some.inj hm
      exact N_meet fun a ha => ⟨M0.pick [] (by kernel_rfl), ha.sub (by kernel_rfl)⟩
    · refine W_known 10 false (by kernel_rfl) hc2376 ?_
      refine W_run 5 [(6, .bool false)] w (by kernel_rfl) ?_
      refine W_nil ?_
      obtain rfl := Option.some.inj hm
      exact N_meet fun a ha => ⟨M0.pick [] (by kernel_rfl), ha.sub (by kernel_rfl)⟩
  · intro a2379 w2377 ⟨M2378, hS2380⟩
    refine N_use hS2380 ?_
    have hm := hm2375
    refine N_then ?_
    refine G_ret ?_
    obtain rfl := Option.some.inj hm
    refine N_ret [.bool o2373] (RVs_cons (RV_tmp (by kernel_rfl)) RVs_nil) ?_
    exact ⟨rfl, M2378.pick [] (by kernel_rfl)⟩
theorem c_i_isTick (w : World) (x2368 : Int) {r : Bool} (hm : M.i_isTick x2368 = some r) :
    Calls Try.prog 52 #[.int .i64 x2368] w fun e w' => e = .returned (.bool r) ∧ Mem [] w w' [] := by
  unfold M.i_isTick at hm
  refine C_enter Try.func52 rfl (by kernel_rfl) ?_
  have M0 := Mem.refl [] w
  refine G_seq ?_
  refine G_region ?_
  refine W_run 1 [(0, .int .i64 x2368)] w (by kernel_rfl) ?_
  refine W_nil ?_
  refine N_then ?_
  refine G_seq ?_
  refine G_region ?_
  refine W_run 1 [(3, .int .i64 x2368)] w (by kernel_rfl) ?_
  obtain ⟨r2381, hr2381, hm⟩ := gx_bind hm
  refine W_call 67 #[.int .i64 x2368, .int .i64 0, .int .i64 100000] (by kernel_rfl) (by kernel_rfl) ?_
  refine (c_i_inside w x2368 0 100000 hr2381).mono ?_
  rintro e_ w2382 ⟨rfl, K2383⟩
  have M2384 := M0.call0 K2383
  refine ⟨_, rfl, ?_⟩
  refine W_run 1 [(2, .bool r2381)] w2382 (by kernel_rfl) ?_
  refine W_nil ?_
  refine N_then ?_
  refine G_ret ?_
  obtain rfl := Option.some.inj hm
  refine N_ret [.bool r2381] (RVs_cons (RV_tmp (by kernel_rfl)) RVs_nil) ?_
  exact ⟨rfl, M2384.pick [] (by kernel_rfl)⟩
theorem c_i_isParty (w : World) (x2390 : Int) {r : Bool} (hm : M.i_isParty x2390 = some r) :
    Calls Try.prog 53 #[.int .i64 x2390] w fun e w' => e = .returned (.bool r) ∧ Mem [] w w' [] := by
  unfold M.i_isParty at hm
  refine C_enter Try.func53 rfl (by kernel_rfl) ?_
  have M0 := Mem.refl [] w
  refine G_seq ?_
  refine G_region ?_
  refine W_run 1 [(0, .int .i64 x2390)] w (by kernel_rfl) ?_
  refine W_nil ?_
  refine N_then ?_
  refine G_seq ?_
  refine G_region ?_
  refine W_run 1 [(3, .int .i64 x2390)] w (by kernel_rfl) ?_
  obtain ⟨r2391, hr2391, hm⟩ := gx_bind hm
  refine W_call 67 #[.int .i64 x2390, .int .i64 0, .int .i64 4] (by kernel_rfl) (by kernel_rfl) ?_
  refine (c_i_inside w x2390 0 4 hr2391).mono ?_
  rintro e_ w2392 ⟨rfl, K2393⟩
  have M2394 := M0.call0 K2393
  refine ⟨_, rfl, ?_⟩
  refine W_run 1 [(2, .bool r2391)] w2392 (by kernel_rfl) ?_
  refine W_nil ?_
  refine N_then ?_
  refine G_ret ?_
  obtain rfl := Option.some.inj hm
  refine N_ret [.bool r2391] (RVs_cons (RV_tmp (by kernel_rfl)) RVs_nil) ?_
  exact ⟨rfl, M2394.pick [] (by kernel_rfl)⟩
theorem c_i_isWord (w : World) (x2401 : ByteArray) {r : Bool} (hm : M.i_isWord x2401 = some r) :
    Calls Try.prog 80 #[.string x2401] w fun e w' => e = .returned (.bool r) ∧ Mem [] w w' [] := by
  unfold M.i_isWord at hm
  refine C_enter Try.func80 rfl (by kernel_rfl) ?_
  have M0 := Mem.refl [] w
  refine G_seq ?_
  refine G_region ?_
  refine W_run 1 [(0, .string x2401)] w (by kernel_rfl) ?_
  refine W_nil ?_
  refine N_then ?_
  refine G_seq ?_
  refine G_seq ?_
  refine G_region ?_
  refine W_run 1 [(0, .string x2401), (3, .int .i64 0)] w (by kernel_rfl) ?_
  refine W_nil ?_
  refine N_then ?_
  obtain ⟨out2439, hw2440, hmo2441⟩ := gx_bind hm
  refine G_meet (fun a w' => ∃ (o2442 : Unit), out2439 = .inl o2442 ∧ Mem [] w w' [] ∧ Sat Try.f80.ntmps [(0, .string x2401)] a) ?_ ?_
  · refine G_block ?_
    refine G_while (σ := Int) (ρ := (Unit) ⊕ (Bool)) (fun s2432 a w' => Mem [] w w' [] ∧ Sat Try.f80.ntmps [(0, .string x2401), (3, .int .i64 s2432)] a) hw2440 (fun a ha => ⟨M0.pick [] (by kernel_rfl), ha.sub (by kernel_rfl)⟩) ?_
    clear hm
    intro s2432 x2433 hm hout2434 a2435 w2436 ⟨M2437, hS2438⟩
    refine G_use hS2438 ?_
    refine G_seq ?_
    refine G_seq ?_
    refine G_region ?_
    refine W_run 4 [(0, .string x2401), (3, .int .i64 s2432), (7, .bool (decide (s2432 < (x2401.size : Int))))] w2436 (by kernel_rfl) ?_
    refine W_nil ?_
    refine N_then ?_
    rcases gx_bif hm with ⟨hc2443, hm⟩ | ⟨hc2443, hm⟩
    · refine G_cond_t (b := (decide (s2432 < (x2401.size : Int)))) hc2443 (by kernel_rfl) ?_
      refine G_skip ?_
      refine N_then ?_
      refine G_seq ?_
      refine G_block ?_
      refine G_seq ?_
      obtain ⟨o2447, ho2448, hm2449⟩ := gx_bind hm
      refine G_meet (fun a w' => Mem [] w w' [] ∧ Sat Try.f80.ntmps [(0, .string x2401), (3, .int .i64 s2432), (19, .bool o2447)] a) ?_ ?_
      · have hm := ho2448
        refine G_region ?_
        refine W_run 2 [(0, .string x2401), (3, .int .i64 s2432), (10, .string x2401), (11, .int .i64 s2432)] w2436 (by kernel_rfl) ?_
        obtain ⟨q2450, hq2450, hm⟩ := gx_bind hm
        refine W_val (.int .u8 q2450) w2436 (by kernel_rfl) (E_strIdx _ _ _ x2401 .i64 s2432 q2450 rfl (by kernel_rfl) (by kernel_rfl) (by kernel_rfl) hq2450) ?_
        refine W_run 2 [(0, .string x2401), (3, .int .i64 s2432), (14, .bool (decide (q2450 < 97)))] w2436 (by kernel_rfl) ?_
        rcases gx_bif hm with ⟨hc2451, hm⟩ | ⟨hc2451, hm⟩
        · refine W_known 14 true (by kernel_rfl) hc2451 ?_
          refine W_run 5 [(0, .string x2401), (3, .int .i64 s2432), (19, .bool true)] w2436 (by kernel_rfl) ?_
          refine W_nil ?_
          obtain rfl := Option.some.inj hm
          exact N_meet fun a ha => ⟨M2437.pick [] (by kernel_rfl), ha.sub (by kernel_rfl)⟩
        · refine W_known 14 false (by kernel_rfl) hc2451 ?_
          refine W_run 2 [(0, .string x2401), (3, .int .i64 s2432), (14, .bool false), (15, .string x2401), (16, .int .i64 s2432)] w2436 (by kernel_rfl) ?_
          obtain ⟨q2452, hq2452, hm⟩ := gx_bind hm
          refine W_val (.int .u8 q2452) w2436 (by kernel_rfl) (E_strIdx _ _ _ x2401 .i64 s2432 q2452 rfl (by kernel_rfl) (by kernel_rfl) (by kernel_rfl) hq2452) ?_
          refine W_run 2 [(0, .string x2401), (3, .int .i64 s2432), (19, .bool (decide (q2452 > 122)))] w2436 (by kernel_rfl) ?_
          refine W_nil ?_
          obtain rfl := Option.some.inj hm
          exact N_meet fun a ha => ⟨M2437.pick [] (by kernel_rfl), ha.sub (by kernel_rfl)⟩
      · intro a2455 w2453 ⟨M2454, hS2456⟩
        refine N_use hS2456 ?_
        have hm := hm2449
        refine N_then ?_
        rcases gx_bif hm with ⟨hc2457, hm⟩ | ⟨hc2457, hm⟩
        · refine G_cond_t (b := o2447) hc2457 (by kernel_rfl) ?_
          refine G_seq ?_
          refine G_region ?_
          refine W_run 1 [(2, .bool false)] w2453 (by kernel_rfl) ?_
          refine W_nil ?_
          refine N_then ?_
          refine G_ret ?_
          refine N_block_ret ?_
          refine N_then_ret ?_
          refine N_then_ret ?_
          obtain rfl := Option.some.inj hm
          obtain rfl := hout2434 _ rfl
          have hm := hmo2441; simp only [Sum.elim_inr] at hm
          refine N_block_ret ?_
          refine N_meet_ret ?_
          refine N_then_ret ?_
          obtain rfl := Option.some.inj hm
          refine N_ret [.bool false] (RVs_cons (RV_tmp (by kernel_rfl)) RVs_nil) ?_
          exact ⟨rfl, M2454.pick [] (by kernel_rfl)⟩
        · refine G_cond_f (b := o2447) hc2457 (by kernel_rfl) ?_
          refine G_skip ?_
          refine N_block ?_
          refine N_then ?_
          refine G_region ?_
          refine W_run 3 [(0, .string x2401), (3, .int .i64 (w64 (s2432 + 1)))] w2453 (by kernel_rfl) ?_
          refine W_nil ?_
          obtain rfl := Option.some.inj hm
          exact N_loop fun a ha => ⟨_, rfl, M2454.pick [] (by kernel_rfl), ha.sub (by kernel_rfl)⟩
    · refine G_cond_f (b := (decide (s2432 < (x2401.size : Int)))) hc2443 (by kernel_rfl) ?_
      refine G_exit ?_
      refine N_then_exit ?_
      refine N_then_exit ?_
      refine N_block_eq ?_
      obtain rfl := Option.some.inj hm
      obtain rfl := hout2434 _ rfl
      exact N_meet fun a ha => ⟨_, rfl, M2437.pick [] (by kernel_rfl), ha.sub (by kernel_rfl)⟩
  · intro a2458 w2459 ⟨o2442, hout_, M2460, hS2461⟩
    refine N_use hS2461 ?_
    subst hout_
    have hm := hmo2441; simp only [Sum.elim_inl] at hm
    refine N_then ?_
    refine G_seq ?_
    refine G_region ?_
    refine W_run 2 [(21, .int .i64 (x2401.size : Int))] w2459 (by kernel_rfl) ?_
    obtain ⟨r2462, hr2462, hm⟩ := gx_bind hm
    refine W_call 67 #[.int .i64 (x2401.size : Int), .int .i64 1, .int .i64 10] (by kernel_rfl) (by kernel_rfl) ?_
    refine (c_i_inside w2459 (x2401.size : Int) 1 10 hr2462).mono ?_
    rintro e_ w2463 ⟨rfl, K2464⟩
    have M2465 := M2460.call0 K2464
    refine ⟨_, rfl, ?_⟩
    refine W_run 1 [(2, .bool r2462)] w2463 (by kernel_rfl) ?_
    refine W_nil ?_
    refine N_then ?_
    refine G_ret ?_
    obtain rfl := Option.some.inj hm
    refine N_ret [.bool r2462] (RVs_cons (RV_tmp (by kernel_rfl)) RVs_nil) ?_
    exact ⟨rfl, M2465.pick [] (by kernel_rfl)⟩
theorem c_i_isEventKind (w : World) (x2400 : ByteArray) {r : Bool} (hm : M.i_isEventKind x2400 = some r) :
    Calls Try.prog 54 #[.string x2400] w fun e w' => e = .returned (.bool r) ∧ Mem [] w w' [] := by
  unfold M.i_isEventKind at hm
  refine C_enter Try.func54 rfl (by kernel_rfl) ?_
  have M0 := Mem.refl [] w
  refine G_seq ?_
  refine G_region ?_
  refine W_run 1 [(0, .string x2400)] w (by kernel_rfl) ?_
  refine W_nil ?_
  refine N_then ?_
  refine G_seq ?_
  obtain ⟨o2471, ho2472, hm2473⟩ := gx_bind hm
  refine G_meet (fun a w' => Mem [] w w' [] ∧ Sat Try.f54.ntmps [(2, .bool o2471)] a) ?_ ?_
  · have hm := ho2472
    refine G_region ?_
    refine W_run 1 [(0, .string x2400), (3, .string x2400)] w (by kernel_rfl) ?_
    obtain ⟨r2474, hr2474, hm⟩ := gx_bind hm
    refine W_call 80 #[.string x2400] (by kernel_rfl) (by kernel_rfl) ?_
    refine (c_i_isWord w x2400 hr2474).mono ?_
    rintro e_ w2475 ⟨rfl, K2476⟩
    have M2477 := M0.call0 K2476
    refine ⟨_, rfl, ?_⟩
    refine W_run 1 [(0, .string x2400), (5, .bool r2474)] w2475 (by kernel_rfl) ?_
    rcases gx_bif hm with ⟨hc2478, hm⟩ | ⟨hc2478, hm⟩
    · refine W_known 5 true (by kernel_rfl) hc2478 ?_
      refine W_run 5 [(2, .bool (decide ((x2400.size : Int) ≤ 8)))] w2475 (by kernel_rfl) ?_
      refine W_nil ?_
      obtain rfl := Option.some.inj hm
      exact N_meet fun a ha => ⟨M2477.pick [] (by kernel_rfl), ha.sub (by kernel_rfl)⟩
    · refine W_known 5 false (by kernel_rfl) hc2478 ?_
      refine W_run 5 [(2, .bool false)] w2475 (by kernel_rfl) ?_
      refine W_nil ?_
      obtain rfl := Option.some.inj hm
      exact N_meet fun a ha => ⟨M2477.pick [] (by kernel_rfl), ha.sub (by kernel_rfl)⟩
  · intro a2481 w2479 ⟨M2480, hS2482⟩
    refine N_use hS2482 ?_
    have hm := hm2473
    refine N_then ?_
    refine G_ret ?_
    obtain rfl := Option.some.inj hm
    refine N_ret [.bool o2471] (RVs_cons (RV_tmp (by kernel_rfl)) RVs_nil) ?_
    exact ⟨rfl, M2480.pick [] (by kernel_rfl)⟩
theorem c_i_isWord16 (w : World) (x2488 : Int) {r : Bool} (hm : M.i_isWord16 x2488 = some r) :
    Calls Try.prog 55 #[.int .i64 x2488] w fun e w' => e = .returned (.bool r) ∧ Mem [] w w' [] := by
  unfold M.i_isWord16 at hm
  refine C_enter Try.func55 rfl (by kernel_rfl) ?_
  have M0 := Mem.refl [] w
  refine G_seq ?_
  refine G_region ?_
  refine W_run 1 [(0, .int .i64 x2488)] w (by kernel_rfl) ?_
  refine W_nil ?_
  refine N_then ?_
  refine G_seq ?_
  refine G_region ?_
  refine W_run 1 [(3, .int .i64 x2488)] w (by kernel_rfl) ?_
  obtain ⟨r2489, hr2489, hm⟩ := gx_bind hm
  refine W_call 67 #[.int .i64 x2488, .int .i64 0, .int .i64 65535] (by kernel_rfl) (by kernel_rfl) ?_
  refine (c_i_inside w x2488 0 65535 hr2489).mono ?_
  rintro e_ w2490 ⟨rfl, K2491⟩
  have M2492 := M0.call0 K2491
  refine ⟨_, rfl, ?_⟩
  refine W_run 1 [(2, .bool r2489)] w2490 (by kernel_rfl) ?_
  refine W_nil ?_
  refine N_then ?_
  refine G_ret ?_
  obtain rfl := Option.some.inj hm
  refine N_ret [.bool r2489] (RVs_cons (RV_tmp (by kernel_rfl)) RVs_nil) ?_
  exact ⟨rfl, M2492.pick [] (by kernel_rfl)⟩
theorem c_i_IsEvent (w : World) (x2363 : Event) {r : Bool} (hm : M.i_IsEvent x2363 = some r) :
    Calls Try.prog 16 #[.agg #[.int .i64 x2363.Tick, .int .i64 x2363.Guest, .string x2363.Kind, .int .i64 x2363.Value]] w fun e w' => e = .returned (.bool r) ∧ Mem [] w w' [] := by
  unfold M.i_IsEvent at hm
  refine C_enter Try.func16 rfl (by kernel_rfl) ?_
  have M0 := Mem.refl [] w
  refine G_seq ?_
  refine G_region ?_
  refine W_new (fun b => .pointer (some ⟨b, 0, none⟩)) (.cells ⟨[.int .i64 x2363.Tick, .int .i64 x2363.Guest, .string x2363.Kind, .int .i64 x2363.Value]⟩ 26 (0, 0)) M0 rfl (by kernel_rfl) (by kernel_rfl) ?_
  intro b2365 w2366 M2367
  refine W_run 1 [(1, .pointer (some ⟨b2365, 0, none⟩))] w2366 (by kernel_rfl) ?_
  refine W_nil ?_
  refine N_then ?_
  refine G_seq ?_
  obtain ⟨o2497, ho2498, hm2499⟩ := gx_bind hm
  refine G_meet (fun a w' => Mem [] w w' [] ∧ Sat Try.f16.ntmps [(2, .bool o2497)] a) ?_ ?_
  · have hm := ho2498
    refine G_region ?_
    refine W_run 1 [(1, .pointer (some ⟨b2365, 0, none⟩)), (3, .pointer (some ⟨b2365, 0, none⟩))] w2366 (by kernel_rfl) ?_
    refine W_val (.int .i64 x2363.Tick) w2366 (by kernel_rfl) (E_load (e := 26) (fr := (0, 0)) _ _ false 1 b2365 0 [.int .i64 x2363.Tick, .int .i64 x2363.Guest, .string x2363.Kind, .int .i64 x2363.Value] (.int .i64 x2363.Tick) rfl (by kernel_rfl) (by kernel_rfl) (by kernel_rfl) (M2367.blk 0 (b := b2365) (o := .cells ⟨[.int .i64 x2363.Tick, .int .i64 x2363.Guest, .string x2363.Kind, .int .i64 x2363.Value]⟩ 26 (0, 0)) (by kernel_rfl))) ?_
    obtain ⟨r2500, hr2500, hm⟩ := gx_bind hm
    refine W_call 52 #[.int .i64 x2363.Tick] (by kernel_rfl) (by kernel_rfl) ?_
    refine (c_i_isTick w2366 x2363.Tick hr2500).mono ?_
    rintro e_ w2501 ⟨rfl, K2502⟩
    have M2503 := M2367.call0 K2502
    refine ⟨_, rfl, ?_⟩
    refine W_run 1 [(1, .pointer (some ⟨b2365, 0, none⟩)), (6, .bool r2500)] w2501 (by kernel_rfl) ?_
    rcases gx_bif hm with ⟨hc2504, hm⟩ | ⟨hc2504, hm⟩
    · refine W_known 6 true (by kernel_rfl) hc2504 ?_
      refine W_run 1 [(1, .pointer (some ⟨b2365, 0, none⟩)), (6, .bool true), (7, .pointer (some ⟨b2365, 1, none⟩))] w2501 (by kernel_rfl) ?_
      refine W_val (.int .i64 x2363.Guest) w2501 (by kernel_rfl) (E_load (e := 26) (fr := (0, 0)) _ _ false 1 b2365 1 [.int .i64 x2363.Tick, .int .i64 x2363.Guest, .string x2363.Kind, .int .i64 x2363.Value] (.int .i64 x2363.Guest) rfl (by kernel_rfl) (by kernel_rfl) (by kernel_rfl) (M2503.blk 0 (b := b2365) (o := .cells ⟨[.int .i64 x2363.Tick, .int .i64 x2363.Guest, .string x2363.Kind, .int .i64 x2363.Value]⟩ 26 (0, 0)) (by kernel_rfl))) ?_
      obtain ⟨r2505, hr2505, hm⟩ := gx_bind hm
      refine W_call 53 #[.int .i64 x2363.Guest] (by kernel_rfl) (by kernel_rfl) ?_
      refine (c_i_isParty w2501 x2363.Guest hr2505).mono ?_
      rintro e_ w2506 ⟨rfl, K2507⟩
      have M2508 := M2503.call0 K2507
      refine ⟨_, rfl, ?_⟩
      refine W_run 2 [(1, .pointer (some ⟨b2365, 0, none⟩)), (11, .bool r2505)] w2506 (by kernel_rfl) ?_
      rcases gx_bif hm with ⟨hc2509, hm⟩ | ⟨hc2509, hm⟩
      · refine W_known 11 true (by kernel_rfl) hc2509 ?_
        refine W_run 1 [(1, .pointer (some ⟨b2365, 0, none⟩)), (11, .bool true), (12, .pointer (some ⟨b2365, 2, none⟩))] w2506 (by kernel_rfl) ?_
        refine W_val (.string x2363.Kind) w2506 (by kernel_rfl) (E_load (e := 26) (fr := (0, 0)) _ _ false 1 b2365 2 [.int .i64 x2363.Tick, .int .i64 x2363.Guest, .string x2363.Kind, .int .i64 x2363.Value] (.string x2363.Kind) rfl (by kernel_rfl) (by kernel_rfl) (by kernel_rfl) (M2508.blk 0 (b := b2365) (o := .cells ⟨[.int .i64 x2363.Tick, .int .i64 x2363.Guest, .string x2363.Kind, .int .i64 x2363.Value]⟩ 26 (0, 0)) (by kernel_rfl))) ?_
        obtain ⟨r2510, hr2510, hm⟩ := gx_bind hm
        refine W_call 54 #[.string x2363.Kind] (by kernel_rfl) (by kernel_rfl) ?_
        refine (c_i_isEventKind w2506 x2363.Kind hr2510).mono ?_
        rintro e_ w2511 ⟨rfl, K2512⟩
        have M2513 := M2508.call0 K2512
        refine ⟨_, rfl, ?_⟩
        refine W_run 2 [(1, .pointer (some ⟨b2365, 0, none⟩)), (16, .bool r2510)] w2511 (by kernel_rfl) ?_
        rcases gx_bif hm with ⟨hc2514, hm⟩ | ⟨hc2514, hm⟩
        · refine W_known 16 true (by kernel_rfl) hc2514 ?_
          refine W_run 1 [(16, .bool true), (17, .pointer (some ⟨b2365, 3, none⟩))] w2511 (by kernel_rfl) ?_
          refine W_val (.int .i64 x2363.Value) w2511 (by kernel_rfl) (E_load (e := 26) (fr := (0, 0)) _ _ false 1 b2365 3 [.int .i64 x2363.Tick, .int .i64 x2363.Guest, .string x2363.Kind, .int .i64 x2363.Value] (.int .i64 x2363.Value) rfl (by kernel_rfl) (by kernel_rfl) (by kernel_rfl) (M2513.blk 0 (b := b2365) (o := .cells ⟨[.int .i64 x2363.Tick, .int .i64 x2363.Guest, .string x2363.Kind, .int .i64 x2363.Value]⟩ 26 (0, 0)) (by kernel_rfl))) ?_
          obtain ⟨r2515, hr2515, hm⟩ := gx_bind hm
          refine W_call 55 #[.int .i64 x2363.Value] (by kernel_rfl) (by kernel_rfl) ?_
          refine (c_i_isWord16 w2511 x2363.Value hr2515).mono ?_
          rintro e_ w2516 ⟨rfl, K2517⟩
          have M2518 := M2513.call0 K2517
          refine ⟨_, rfl, ?_⟩
          refine W_run 2 [(2, .bool r2515)] w2516 (by kernel_rfl) ?_
          refine W_nil ?_
          obtain rfl := Option.some.inj hm
          exact N_meet fun a ha => ⟨M2518.pick [] (by kernel_rfl), ha.sub (by kernel_rfl)⟩
        · refine W_known 16 false (by kernel_rfl) hc2514 ?_
          refine W_run 5 [(2, .bool false)] w2511 (by kernel_rfl) ?_
          refine W_nil ?_
          obtain rfl := Option.some.inj hm
          exact N_meet fun a ha => ⟨M2513.pick [] (by kernel_rfl), ha.sub (by kernel_rfl)⟩
      · refine W_known 11 false (by kernel_rfl) hc2509 ?_
        refine W_run 10 [(2, .bool false)] w2506 (by kernel_rfl) ?_
        refine W_nil ?_
        obtain rfl := Option.some.inj hm
        exact N_meet fun a ha => ⟨M2508.pick [] (by kernel_rfl), ha.sub (by kernel_rfl)⟩
    · refine W_known 6 false (by kernel_rfl) hc2504 ?_
      refine W_run 15 [(2, .bool false)] w2501 (by kernel_rfl) ?_
      refine W_nil ?_
      obtain rfl := Option.some.inj hm
      exact N_meet fun a ha => ⟨M2503.pick [] (by kernel_rfl), ha.sub (by kernel_rfl)⟩
  · intro a2521 w2519 ⟨M2520, hS2522⟩
    refine N_use hS2522 ?_
    have hm := hm2499
    refine N_then ?_
    refine G_ret ?_
    obtain rfl := Option.some.inj hm
    refine N_ret [.bool o2497] (RVs_cons (RV_tmp (by kernel_rfl)) RVs_nil) ?_
    exact ⟨rfl, M2520.pick [] (by kernel_rfl)⟩
theorem c_i_IsRecord (w : World) (x2350 : List Event) (p2352 : Option Addr) (c2353 : Nat) (h2354 : rdS encEvent w x2350 p2352 c2353) {r : Bool} (hm : M.i_IsRecord x2350 = some r) :
    Calls Try.prog 20 #[.slice p2352 x2350.length c2353] w fun e w' => e = .returned (.bool r) ∧ Mem [] w w' [] := by
  unfold M.i_IsRecord at hm
  refine C_enter Try.func20 rfl (by kernel_rfl) ?_
  have M0 := Mem.refl [] w
  refine G_seq ?_
  refine G_region ?_
  refine W_run 1 [(0, .slice p2352 x2350.length c2353)] w (by kernel_rfl) ?_
  refine W_nil ?_
  refine N_then ?_
  refine G_seq ?_
  refine G_seq ?_
  refine G_region ?_
  refine W_run 3 [(0, .slice p2352 x2350.length c2353), (5, .slice p2352 x2350.length c2353), (6, .int .i64 (x2350.length : Int)), (7, .int .i64 0)] w (by kernel_rfl) ?_
  refine W_nil ?_
  refine N_then ?_
  obtain ⟨out2606, hw2607, hmo2608⟩ := gx_bind hm
  refine G_meet (fun a w' => ∃ (o2609 : Unit), out2606 = .inl o2609 ∧ Mem [] w w' [] ∧ Sat Try.f20.ntmps [(0, .slice p2352 x2350.length c2353)] a) ?_ ?_
  · refine G_block ?_
    refine G_while (σ := Int) (ρ := (Unit) ⊕ (Bool)) (fun s2599 a w' => Mem [] w w' [] ∧ Sat Try.f20.ntmps [(0, .slice p2352 x2350.length c2353), (5, .slice p2352 x2350.length c2353), (6, .int .i64 (x2350.length : Int)), (7, .int .i64 s2599)] a) hw2607 (fun a ha => ⟨M0.pick [] (by kernel_rfl), ha.sub (by kernel_rfl)⟩) ?_
    clear hm
    intro s2599 x2600 hm hout2601 a2602 w2603 ⟨M2604, hS2605⟩
    refine G_use hS2605 ?_
    refine G_seq ?_
    refine G_region ?_
    refine W_run 1 [(0, .slice p2352 x2350.length c2353), (5, .slice p2352 x2350.length c2353), (6, .int .i64 (x2350.length : Int)), (7, .int .i64 s2599), (8, .bool (decide (s2599 < (x2350.length : Int))))] w2603 (by kernel_rfl) ?_
    refine W_nil ?_
    refine N_then ?_
    refine G_seq ?_
    rcases gx_bif hm with ⟨hc2610, hm⟩ | ⟨hc2610, hm⟩
    · refine G_cond_t (b := (decide (s2599 < (x2350.length : Int)))) hc2610 (by kernel_rfl) ?_
      refine G_skip ?_
      refine N_then ?_
      refine G_seq ?_
      refine G_block ?_
      refine G_seq ?_
      refine G_region ?_
      refine W_run 1 [(0, .slice p2352 x2350.length c2353), (5, .slice p2352 x2350.length c2353), (6, .int .i64 (x2350.length : Int)), (7, .int .i64 s2599), (9, .int .i64 s2599)] w2603 (by kernel_rfl) ?_
      obtain ⟨y2611, hy2611, hm⟩ := gx_bind hm
      refine W_val (elemP p2352 (s2599.toNat * 4)) w2603 (by kernel_rfl) (E_index (E := encEvent) _ _ _ x2350.length c2353 .i64 s2599 4 (y := y2611) rfl (by kernel_rfl) (by kernel_rfl) (by kernel_rfl) (h2354.mem0 M2604) rfl hy2611) ?_
      refine W_val (.agg #[.int .i64 y2611.Tick, .int .i64 y2611.Guest, .string y2611.Kind, .int .i64 y2611.Value]) w2603 (by kernel_rfl) (E_loadE (E := encEvent) _ _ true 4 s2599 0 (s2599.toNat * 4) y2611 (.agg #[.int .i64 y2611.Tick, .int .i64 y2611.Guest, .string y2611.Kind, .int .i64 y2611.Value]) rfl (by kernel_rfl) (by kernel_rfl) (by kernel_rfl) (h2354.mem0 M2604) hy2611 rfl) ?_
      refine W_new (fun b => .pointer (some ⟨b, 0, none⟩)) (.cells ⟨[.int .i64 0, .int .i64 0, .string ByteArray.empty, .int .i64 0]⟩ 26 (0, 0)) M2604 rfl (by kernel_rfl) (by kernel_rfl) ?_
      intro b2613 w2614 M2615
      refine W_run 1 [(0, .slice p2352 x2350.length c2353), (3, .int .i64 s2599), (4, .pointer (some ⟨b2613, 0, none⟩)), (5, .slice p2352 x2350.length c2353), (6, .int .i64 (x2350.length : Int)), (7, .int .i64 s2599), (11, .agg #[.int .i64 y2611.Tick, .int .i64 y2611.Guest, .string y2611.Kind, .int .i64 y2611.Value])] w2614 (by kernel_rfl) ?_
      refine W_store _ _ _ true 4 b2613 0 [.int .i64 0, .int .i64 0, .string ByteArray.empty, .int .i64 0] 26 (.agg #[.int .i64 y2611.Tick, .int .i64 y2611.Guest, .string y2611.Kind, .int .i64 y2611.Value]) 0 [.int .i64 y2611.Tick, .int .i64 y2611.Guest, .string y2611.Kind, .int .i64 y2611.Value] M2615 (by kernel_rfl) rfl (by kernel_rfl) (by kernel_rfl) (by kernel_rfl) (by kernel_rfl) (by kernel_rfl) (by kernel_rfl) (by kernel_rfl) (by kernel_rfl) ?_
      intro w2616 M2617
      refine W_nil ?_
      refine N_then ?_
      refine G_seq ?_
      obtain ⟨o2631, ho2632, hm2633⟩ := gx_bind hm
      refine G_meet (fun a w' => Mem [] w w' [] ∧ Sat Try.f20.ntmps [(0, .slice p2352 x2350.length c2353), (5, .slice p2352 x2350.length c2353), (6, .int .i64 (x2350.length : Int)), (7, .int .i64 s2599), (29, .bool o2631)] a) ?_ ?_
      · have hm := ho2632
        refine G_quiet (by kernel_rfl) (by kernel_rfl) M2617 ?_
        refine Z_val (.agg #[.int .i64 y2611.Tick, .int .i64 y2611.Guest, .string y2611.Kind, .int .i64 y2611.Value]) (by kernel_rfl) (fun w_ M_ => (E_load (e := 26) (fr := (0, 0)) _ _ true 4 b2613 0 [.int .i64 y2611.Tick, .int .i64 y2611.Guest, .string y2611.Kind, .int .i64 y2611.Value] (.agg #[.int .i64 y2611.Tick, .int .i64 y2611.Guest, .string y2611.Kind, .int .i64 y2611.Value]) rfl (by kernel_rfl) (by kernel_rfl) (by kernel_rfl) (M_.blk 0 (b := b2613) (o := .cells ⟨[.int .i64 y2611.Tick, .int .i64 y2611.Guest, .string y2611.Kind, .int .i64 y2611.Value]⟩ 26 (0, 0)) (by kernel_rfl)))) ?_
        obtain ⟨r2634, hr2634, hm⟩ := gx_bind hm
        refine Z_call 16 #[.agg #[.int .i64 y2611.Tick, .int .i64 y2611.Guest, .string y2611.Kind, .int .i64 y2611.Value]] (.bool r2634) (by kernel_rfl) (fun w_ => by kernel_rfl) (fun w_ M_ => (c_i_IsEvent w_ y2611 hr2634).mono fun e w2_ h_ => ⟨h_.1, M_.call0 h_.2⟩) ?_
        refine Z_runs [.bool (!r2634), .bool (!r2634)] [(0, .slice p2352 x2350.length c2353), (3, .int .i64 s2599), (4, .pointer (some ⟨b2613, 0, none⟩)), (5, .slice p2352 x2350.length c2353), (6, .int .i64 (x2350.length : Int)), (7, .int .i64 s2599), (15, .bool (!r2634))] (fun w_ => by kernel_rfl) (by kernel_rfl) ?_
        rcases gx_bif hm with ⟨hc2638, hm⟩ | ⟨hc2638, hm⟩
        · refine Z_known 15 true (by kernel_rfl) hc2638 ?_
          refine Z_runs [undef, undef, undef, undef, undef, undef, undef, undef, undef, undef, undef, undef, undef, .bool true] [(0, .slice p2352 x2350.length c2353), (5, .slice p2352 x2350.length c2353), (6, .int .i64 (x2350.length : Int)), (7, .int .i64 s2599), (29, .bool true)] (fun w_ => by kernel_rfl) (by kernel_rfl) ?_
          refine Z_end fun w2639 M2640 => ?_
          obtain rfl := Option.some.inj hm
          exact N_meet fun a ha => ⟨M2640.pick [] (by kernel_rfl), ha.sub (by kernel_rfl)⟩
        · refine Z_known 15 false (by kernel_rfl) hc2638 ?_
          refine Z_runs [.int .i64 s2599, .bool (decide (s2599 > 0)), .bool (decide (s2599 > 0))] [(0, .slice p2352 x2350.length c2353), (3, .int .i64 s2599), (4, .pointer (some ⟨b2613, 0, none⟩)), (5, .slice p2352 x2350.length c2353), (6, .int .i64 (x2350.length : Int)), (7, .int .i64 s2599), (15, .bool false), (18, .bool (decide (s2599 > 0)))] (fun w_ => by kernel_rfl) (by kernel_rfl) ?_
          rcases gx_bif hm with ⟨hc2641, hm⟩ | ⟨hc2641, hm⟩
          · refine Z_known 18 true (by kernel_rfl) hc2641 ?_
            refine Z_runs [.slice p2352 x2350.length c2353, .int .i64 s2599, .int .i64 (w64 (s2599 - 1))] [(0, .slice p2352 x2350.length c2353), (4, .pointer (some ⟨b2613, 0, none⟩)), (5, .slice p2352 x2350.length c2353), (6, .int .i64 (x2350.length : Int)), (7, .int .i64 s2599), (15, .bool false), (18, .bool true), (19, .slice p2352 x2350.length c2353), (21, .int .i64 (w64 (s2599 - 1)))] (fun w_ => by kernel_rfl) (by kernel_rfl) ?_
            obtain ⟨y2642, hy2642, hm⟩ := gx_bind hm
            refine Z_val (elemP p2352 ((w64 (s2599 - 1)).toNat * 4)) (by kernel_rfl) (fun w_ M_ => (E_index (E := encEvent) _ _ _ x2350.length c2353 .i64 (w64 (s2599 - 1)) 4 (y := y2642) rfl (by kernel_rfl) (by kernel_rfl) (by kernel_rfl) (h2354.mem0 M_) rfl hy2642)) ?_
            refine Z_val (elemP p2352 ((w64 (s2599 - 1)).toNat * 4 + 0)) (by kernel_rfl) (fun w_ M_ => (E_fieldE (E := encEvent) _ _ 0 ((w64 (s2599 - 1)).toNat * 4) 0 rfl (by kernel_rfl) (by kernel_rfl) (h2354.mem0 M_) hy2642)) ?_
            refine Z_val (.int .i64 y2642.Tick) (by kernel_rfl) (fun w_ M_ => (E_loadE (E := encEvent) _ _ false 1 (w64 (s2599 - 1)) 0 ((w64 (s2599 - 1)).toNat * 4 + 0) y2642 (.int .i64 y2642.Tick) rfl (by kernel_rfl) (by kernel_rfl) (by kernel_rfl) (h2354.mem0 M_) hy2642 rfl)) ?_
            refine Z_runs [.pointer (some ⟨b2613, 0, none⟩)] [(0, .slice p2352 x2350.length c2353), (5, .slice p2352 x2350.length c2353), (6, .int .i64 (x2350.length : Int)), (7, .int .i64 s2599), (15, .bool false), (18, .bool true), (24, .int .i64 y2642.Tick), (25, .pointer (some ⟨b2613, 0, none⟩))] (fun w_ => by kernel_rfl) (by kernel_rfl) ?_
            refine Z_val (.int .i64 y2611.Tick) (by kernel_rfl) (fun w_ M_ => (E_load (e := 26) (fr := (0, 0)) _ _ false 1 b2613 0 [.int .i64 y2611.Tick, .int .i64 y2611.Guest, .string y2611.Kind, .int .i64 y2611.Value] (.int .i64 y2611.Tick) rfl (by kernel_rfl) (by kernel_rfl) (by kernel_rfl) (M_.blk 0 (b := b2613) (o := .cells ⟨[.int .i64 y2611.Tick, .int .i64 y2611.Guest, .string y2611.Kind, .int .i64 y2611.Value]⟩ 26 (0, 0)) (by kernel_rfl)))) ?_
            refine Z_runs [.bool (decide (y2642.Tick > y2611.Tick)), .bool (decide (y2642.Tick > y2611.Tick)), .bool (decide (y2642.Tick > y2611.Tick))] [(0, .slice p2352 x2350.length c2353), (5, .slice p2352 x2350.length c2353), (6, .int .i64 (x2350.length : Int)), (7, .int .i64 s2599), (29, .bool (decide (y2642.Tick > y2611.Tick)))] (fun w_ => by kernel_rfl) (by kernel_rfl) ?_
            refine Z_end fun w2643 M2644 => ?_
            obtain rfl := Option.some.inj hm
            exact N_meet fun a ha => ⟨M2644.pick [] (by kernel_rfl), ha.sub (by kernel_rfl)⟩
          · refine Z_known 18 false (by kernel_rfl) hc2641 ?_
            refine Z_runs [undef, undef, undef, undef, undef, undef, undef, undef, undef, .bool false, .bool false] [(0, .slice p2352 x2350.length c2353), (5, .slice p2352 x2350.length c2353), (6, .int .i64 (x2350.length : Int)), (7, .int .i64 s2599), (29, .bool false)] (fun w_ => by kernel_rfl) (by kernel_rfl) ?_
            refine Z_end fun w2645 M2646 => ?_
            obtain rfl := Option.some.inj hm
            exact N_meet fun a ha => ⟨M2646.pick [] (by kernel_rfl), ha.sub (by kernel_rfl)⟩
      · intro a2649 w2647 ⟨M2648, hS2650⟩
        refine N_use hS2650 ?_
        have hm := hm2633
        refine N_then ?_
        rcases gx_bif hm with ⟨hc2651, hm⟩ | ⟨hc2651, hm⟩
        · refine G_cond_t (b := o2631) hc2651 (by kernel_rfl) ?_
          refine G_seq ?_
          refine G_region ?_
          refine W_run 1 [(2, .bool false)] w2647 (by kernel_rfl) ?_
          refine W_nil ?_
          refine N_then ?_
          refine G_ret ?_
          refine N_block_ret ?_
          refine N_then_ret ?_
          refine N_then_ret ?_
          obtain rfl := Option.some.inj hm
          obtain rfl := hout2601 _ rfl
          have hm := hmo2608; simp only [Sum.elim_inr] at hm
          refine N_block_ret ?_
          refine N_meet_ret ?_
          refine N_then_ret ?_
          obtain rfl := Option.some.inj hm
          refine N_ret [.bool false] (RVs_cons (RV_tmp (by kernel_rfl)) RVs_nil) ?_
          exact ⟨rfl, M2648.pick [] (by kernel_rfl)⟩
        · refine G_cond_f (b := o2631) hc2651 (by kernel_rfl) ?_
          refine G_skip ?_
          refine N_block ?_
          refine N_then ?_
          refine G_region ?_
          refine W_run 2 [(0, .slice p2352 x2350.length c2353), (5, .slice p2352 x2350.length c2353), (6, .int .i64 (x2350.length : Int)), (7, .int .i64 (w64 (s2599 + 1)))] w2647 (by kernel_rfl) ?_
          refine W_nil ?_
          obtain rfl := Option.some.inj hm
          exact N_loop fun a ha => ⟨_, rfl, M2648.pick [] (by kernel_rfl), ha.sub (by kernel_rfl)⟩
    · refine G_cond_f (b := (decide (s2599 < (x2350.length : Int)))) hc2610 (by kernel_rfl) ?_
      refine G_exit ?_
      refine N_then_exit ?_
      refine N_then_exit ?_
      refine N_block_eq ?_
      obtain rfl := Option.some.inj hm
      obtain rfl := hout2601 _ rfl
      exact N_meet fun a ha => ⟨_, rfl, M2604.pick [] (by kernel_rfl), ha.sub (by kernel_rfl)⟩
  · intro a2652 w2653 ⟨o2609, hout_, M2654, hS2655⟩
    refine N_use hS2655 ?_
    subst hout_
    have hm := hmo2608; simp only [Sum.elim_inl] at hm
    refine N_then ?_
    refine G_seq ?_
    refine G_region ?_
    refine W_run 4 [(2, .bool (decide ((x2350.length : Int) ≤ 30)))] w2653 (by kernel_rfl) ?_
    refine W_nil ?_
    refine N_then ?_
    refine G_ret ?_
    obtain rfl := Option.some.inj hm
    refine N_ret [.bool (decide ((x2350.length : Int) ≤ 30))] (RVs_cons (RV_tmp (by kernel_rfl)) RVs_nil) ?_
    exact ⟨rfl, M2654.pick [] (by kernel_rfl)⟩
theorem c_slices_Sort_70 (w : World) (x2781 : List ByteArray) (p2783 : Option Addr) (c2784 : Nat) (sg2785 : Seg) (ho2786 : ownS Gx.encS x2781 p2783 c2784 sg2785) (hA : ∀ q ∈ List.flatten [sg2785], w.heap[q.1]? = some q.2) (hN : (idsOf [sg2785]).Nodup) {r : (List ByteArray)} (hm : M.slices_Sort_70 x2781 = some r) :
    Calls Try.prog 70 #[.slice p2783 x2781.length c2784] w fun e w' => ∃ (sg2787 : Seg), e = .returned (.tuple #[]) ∧ ownS Gx.encS r p2783 c2784 sg2787 ∧ r.length = x2781.length ∧ Mem (idsOf [sg2785]) w w' [sg2787] := by
  unfold M.slices_Sort_70 at hm
  rcases gx_bif hm with ⟨h, hm⟩ | ⟨h, hm⟩
  · obtain rfl := Option.some.inj hm
    exact sortS_run Try.slices_Sort_string Try.slices_Sort_string_none w x2781 p2783 c2784 sg2785 ho2786 hA hN (of_decide_eq_true h)
  · cases hm
theorem c_slices_Compact_71 (w : World) (x2815 : List ByteArray) (p2817 : Option Addr) (c2818 : Nat) (sg2819 : Seg) (ho2820 : ownS Gx.encS x2815 p2817 c2818 sg2819) (hA : ∀ q ∈ List.flatten [sg2819], w.heap[q.1]? = some q.2) (hN : (idsOf [sg2819]).Nodup) {r : (List ByteArray) × (List ByteArray)} (hm : M.slices_Compact_71 x2815 = some r) :
    Calls Try.prog 71 #[.slice p2817 x2815.length c2818] w fun e w' => ∃ (sg2821 : Seg), ∃ (p2823 : Option Addr) (c2824 : Nat), e = .returned (.slice p2823 r.1.length c2824) ∧ ownS Gx.encS r.2 p2817 c2818 sg2821 ∧ r.2.length = x2815.length ∧ viewS 1 r.2 p2817 c2818 p2823 c2824 r.1 ∧ Mem (idsOf [sg2819]) w w' [sg2821] := by
  unfold M.slices_Compact_71 at hm
  rcases gx_bif hm with ⟨h, hm⟩ | ⟨h, hm⟩
  · obtain rfl := Option.some.inj hm
    exact compS_run Try.slices_Compact_string Try.slices_Compact_string_empty w x2815 p2817 c2818 sg2819 ho2820 hA hN (of_decide_eq_true h)
  · cases hm
theorem c_i_CountKinds_1 (w : World) (x2923 : Event) (x2924 : ByteArray) (b2925 : Nat) (hb2926 : w.heap[b2925]? = some (.cells ⟨[.string x2924]⟩ 9 (0, 0))) {r : Bool} (hm : M.i_CountKinds_1 x2923 x2924 = some r) :
    Calls Try.prog 72 #[.agg #[.int .i64 x2923.Tick, .int .i64 x2923.Guest, .string x2923.Kind, .int .i64 x2923.Value], .pointer (some ⟨b2925, 0, none⟩)] w fun e w' => e = .returned (.bool r) ∧ Mem [] w w' [] := by
  unfold M.i_CountKinds_1 at hm
  refine C_enter Try.func72 rfl (by kernel_rfl) ?_
  have M0 := Mem.refl [] w
  refine G_seq ?_
  refine G_region ?_
  refine W_new (fun b => .pointer (some ⟨b, 0, none⟩)) (.cells ⟨[.int .i64 x2923.Tick, .int .i64 x2923.Guest, .string x2923.Kind, .int .i64 x2923.Value]⟩ 26 (0, 0)) M0 rfl (by kernel_rfl) (by kernel_rfl) ?_
  intro b2929 w2930 M2931
  refine W_run 1 [(1, .pointer (some ⟨b2925, 0, none⟩)), (2, .pointer (some ⟨b2929, 0, none⟩))] w2930 (by kernel_rfl) ?_
  refine W_nil ?_
  refine N_then ?_
  refine G_seq ?_
  refine G_region ?_
  refine W_run 1 [(1, .pointer (some ⟨b2925, 0, none⟩)), (4, .pointer (some ⟨b2929, 2, none⟩))] w2930 (by kernel_rfl) ?_
  refine W_val (.string x2923.Kind) w2930 (by kernel_rfl) (E_load (e := 26) (fr := (0, 0)) _ _ false 1 b2929 2 [.int .i64 x2923.Tick, .int .i64 x2923.Guest, .string x2923.Kind, .int .i64 x2923.Value] (.string x2923.Kind) rfl (by kernel_rfl) (by kernel_rfl) (by kernel_rfl) (M2931.blk 0 (b := b2929) (o := .cells ⟨[.int .i64 x2923.Tick, .int .i64 x2923.Guest, .string x2923.Kind, .int .i64 x2923.Value]⟩ 26 (0, 0)) (by kernel_rfl))) ?_
  refine W_val (.string x2924) w2930 (by kernel_rfl) (E_load (e := 9) (fr := (0, 0)) _ _ false 1 b2925 0 [.string x2924] (.string x2924) rfl (by kernel_rfl) (by kernel_rfl) (by kernel_rfl) (M2931.ro hb2926)) ?_
  refine W_run 2 [(3, .bool (x2923.Kind.toList == x2924.toList))] w2930 (by kernel_rfl) ?_
  refine W_nil ?_
  refine N_then ?_
  refine G_ret ?_
  obtain rfl := Option.some.inj hm
  refine N_ret [.bool (x2923.Kind.toList == x2924.toList)] (RVs_cons (RV_tmp (by kernel_rfl)) RVs_nil) ?_
  exact ⟨rfl, M2931.pick [] (by kernel_rfl)⟩
theorem c_i_eventsWhere_1__i_CountKinds_1 (w : World) (x2911 : Event) (x2912 : ByteArray) (b2913 : Nat) (hb2914 : w.heap[b2913]? = some (.cells ⟨[.string x2912]⟩ 9 (0, 0))) (b2916 : Nat) (hb2917 : w.heap[b2916]? = some (.cells ⟨[.func (.func 72) #[] #[.pointer (some ⟨b2913, 0, none⟩)]]⟩ 25 (0, 0))) {r : Bool} (hm : M.i_eventsWhere_1__i_CountKinds_1 x2911 x2912 = some r) :
    Calls Try.prog 82 #[.agg #[.int .i64 x2911.Tick, .int .i64 x2911.Guest, .string x2911.Kind, .int .i64 x2911.Value], .pointer (some ⟨b2916, 0, none⟩)] w fun e w' => e = .returned (.bool r) ∧ Mem [] w w' [] := by
  unfold M.i_eventsWhere_1__i_CountKinds_1 at hm
  refine C_enter Try.func82 rfl (by kernel_rfl) ?_
  have M0 := Mem.refl [] w
  refine G_seq ?_
  refine G_region ?_
  refine W_new (fun b => .pointer (some ⟨b, 0, none⟩)) (.cells ⟨[.int .i64 x2911.Tick, .int .i64 x2911.Guest, .string x2911.Kind, .int .i64 x2911.Value]⟩ 26 (0, 0)) M0 rfl (by kernel_rfl) (by kernel_rfl) ?_
  intro b2920 w2921 M2922
  refine W_run 1 [(1, .pointer (some ⟨b2916, 0, none⟩)), (2, .pointer (some ⟨b2920, 0, none⟩))] w2921 (by kernel_rfl) ?_
  refine W_nil ?_
  refine N_then ?_
  refine G_seq ?_
  refine G_region ?_
  refine W_val (.func (.func 72) #[] #[.pointer (some ⟨b2913, 0, none⟩)]) w2921 (by kernel_rfl) (E_load (e := 25) (fr := (0, 0)) _ _ false 1 b2916 0 [.func (.func 72) #[] #[.pointer (some ⟨b2913, 0, none⟩)]] (.func (.func 72) #[] #[.pointer (some ⟨b2913, 0, none⟩)]) rfl (by kernel_rfl) (by kernel_rfl) (by kernel_rfl) (M2922.ro hb2917)) ?_
  refine W_val (.agg #[.int .i64 x2911.Tick, .int .i64 x2911.Guest, .string x2911.Kind, .int .i64 x2911.Value]) w2921 (by kernel_rfl) (E_load (e := 26) (fr := (0, 0)) _ _ true 4 b2920 0 [.int .i64 x2911.Tick, .int .i64 x2911.Guest, .string x2911.Kind, .int .i64 x2911.Value] (.agg #[.int .i64 x2911.Tick, .int .i64 x2911.Guest, .string x2911.Kind, .int .i64 x2911.Value]) rfl (by kernel_rfl) (by kernel_rfl) (by kernel_rfl) (M2922.blk 0 (b := b2920) (o := .cells ⟨[.int .i64 x2911.Tick, .int .i64 x2911.Guest, .string x2911.Kind, .int .i64 x2911.Value]⟩ 26 (0, 0)) (by kernel_rfl))) ?_
  obtain ⟨r2932, hr2932, hm⟩ := gx_bind hm
  refine W_call 72 #[.agg #[.int .i64 x2911.Tick, .int .i64 x2911.Guest, .string x2911.Kind, .int .i64 x2911.Value], .pointer (some ⟨b2913, 0, none⟩)] (by kernel_rfl) (by kernel_rfl) ?_
  refine (c_i_CountKinds_1 w2921 x2911 x2912 b2913 (M2922.ro hb2914) hr2932).mono ?_
  rintro e_ w2933 ⟨rfl, K2934⟩
  have M2935 := M2922.call0 K2934
  refine ⟨_, rfl, ?_⟩
  refine W_run 2 [(3, .bool (!r2932))] w2933 (by kernel_rfl) ?_
  refine W_nil ?_
  refine N_then ?_
  refine G_ret ?_
  obtain rfl := Option.some.inj hm
  refine N_ret [.bool (!r2932)] (RVs_cons (RV_tmp (by kernel_rfl)) RVs_nil) ?_
  exact ⟨rfl, M2935.pick [] (by kernel_rfl)⟩
theorem c_slices_IndexFunc_59__i_eventsWhere_1__i_CountKinds_1 (w : World) (x2897 : List Event) (p2899 : Option Addr) (c2900 : Nat) (h2901 : rdS encEvent w x2897 p2899 c2900) (x2902 : ByteArray) (b2903 : Nat) (hb2904 : w.heap[b2903]? = some (.cells ⟨[.string x2902]⟩ 9 (0, 0))) (b2906 : Nat) (hb2907 : w.heap[b2906]? = some (.cells ⟨[.func (.func 72) #[] #[.pointer (some ⟨b2903, 0, none⟩)]]⟩ 25 (0, 0))) {r : Int} (hm : M.slices_IndexFunc_59__i_eventsWhere_1__i_CountKinds_1 x2897 x2902 = some r) :
    Calls Try.prog 59 #[.slice p2899 x2897.length c2900, .func (.func 82) #[] #[.pointer (some ⟨b2906, 0, none⟩)]] w fun e w' => e = .returned (.int .i64 r) ∧ Mem [] w w' [] := by
  unfold M.slices_IndexFunc_59__i_eventsWhere_1__i_CountKinds_1 at hm
  refine C_enter Try.func59 rfl (by kernel_rfl) ?_
  have M0 := Mem.refl [] w
  refine G_seq ?_
  refine G_region ?_
  refine W_run 1 [(0, .slice p2899 x2897.length c2900), (1, .func (.func 82) #[] #[.pointer (some ⟨b2906, 0, none⟩)])] w (by kernel_rfl) ?_
  refine W_nil ?_
  refine N_then ?_
  refine G_seq ?_
  refine G_seq ?_
  refine G_region ?_
  refine W_run 3 [(0, .slice p2899 x2897.length c2900), (1, .func (.func 82) #[] #[.pointer (some ⟨b2906, 0, none⟩)]), (7, .int .i64 (x2897.length : Int)), (8, .int .i64 0)] w (by kernel_rfl) ?_
  refine W_nil ?_
  refine N_then ?_
  obtain ⟨out2955, hw2956, hmo2957⟩ := gx_bind hm
  refine G_meet (fun a w' => ∃ (o2958 : Unit), out2955 = .inl o2958 ∧ Mem [] w w' [] ∧ Sat Try.f59.ntmps [] a) ?_ ?_
  · refine G_block ?_
    refine G_while (σ := Int) (ρ := (Unit) ⊕ (Int)) (fun s2948 a w' => Mem [] w w' [] ∧ Sat Try.f59.ntmps [(0, .slice p2899 x2897.length c2900), (1, .func (.func 82) #[] #[.pointer (some ⟨b2906, 0, none⟩)]), (7, .int .i64 (x2897.length : Int)), (8, .int .i64 s2948)] a) hw2956 (fun a ha => ⟨M0.pick [] (by kernel_rfl), ha.sub (by kernel_rfl)⟩) ?_
    clear hm
    intro s2948 x2949 hm hout2950 a2951 w2952 ⟨M2953, hS2954⟩
    refine G_use hS2954 ?_
    refine G_seq ?_
    refine G_region ?_
    refine W_run 1 [(0, .slice p2899 x2897.length c2900), (1, .func (.func 82) #[] #[.pointer (some ⟨b2906, 0, none⟩)]), (7, .int .i64 (x2897.length : Int)), (8, .int .i64 s2948), (9, .bool (decide (s2948 < (x2897.length : Int))))] w2952 (by kernel_rfl) ?_
    refine W_nil ?_
    refine N_then ?_
    refine G_seq ?_
    rcases gx_bif hm with ⟨hc2959, hm⟩ | ⟨hc2959, hm⟩
    · refine G_cond_t (b := (decide (s2948 < (x2897.length : Int)))) hc2959 (by kernel_rfl) ?_
      refine G_skip ?_
      refine N_then ?_
      refine G_seq ?_
      refine G_block ?_
      refine G_seq ?_
      refine G_region ?_
      refine W_run 2 [(0, .slice p2899 x2897.length c2900), (1, .func (.func 82) #[] #[.pointer (some ⟨b2906, 0, none⟩)]), (5, .int .i64 s2948), (7, .int .i64 (x2897.length : Int)), (8, .int .i64 s2948)] w2952 (by kernel_rfl) ?_
      refine W_nil ?_
      refine N_then ?_
      refine G_seq ?_
      refine G_region ?_
      refine W_run 3 [(0, .slice p2899 x2897.length c2900), (1, .func (.func 82) #[] #[.pointer (some ⟨b2906, 0, none⟩)]), (5, .int .i64 s2948), (7, .int .i64 (x2897.length : Int)), (8, .int .i64 s2948), (11, .func (.func 82) #[] #[.pointer (some ⟨b2906, 0, none⟩)]), (12, .slice p2899 x2897.length c2900), (13, .int .i64 s2948)] w2952 (by kernel_rfl) ?_
      obtain ⟨y2960, hy2960, hm⟩ := gx_bind hm
      refine W_val (elemP p2899 (s2948.toNat * 4)) w2952 (by kernel_rfl) (E_index (E := encEvent) _ _ _ x2897.length c2900 .i64 s2948 4 (y := y2960) rfl (by kernel_rfl) (by kernel_rfl) (by kernel_rfl) (h2901.mem0 M2953) rfl hy2960) ?_
      refine W_val (.agg #[.int .i64 y2960.Tick, .int .i64 y2960.Guest, .string y2960.Kind, .int .i64 y2960.Value]) w2952 (by kernel_rfl) (E_loadE (E := encEvent) _ _ true 4 s2948 0 (s2948.toNat * 4) y2960 (.agg #[.int .i64 y2960.Tick, .int .i64 y2960.Guest, .string y2960.Kind, .int .i64 y2960.Value]) rfl (by kernel_rfl) (by kernel_rfl) (by kernel_rfl) (h2901.mem0 M2953) hy2960 rfl) ?_
      obtain ⟨r2961, hr2961, hm⟩ := gx_bind hm
      refine W_call 82 #[.agg #[.int .i64 y2960.Tick, .int .i64 y2960.Guest, .string y2960.Kind, .int .i64 y2960.Value], .pointer (some ⟨b2906, 0, none⟩)] (by kernel_rfl) (by kernel_rfl) ?_
      refine (c_i_eventsWhere_1__i_CountKinds_1 w2952 y2960 x2902 b2903 (M2953.ro hb2904) b2906 (M2953.ro hb2907) hr2961).mono ?_
      rintro e_ w2962 ⟨rfl, K2963⟩
      have M2964 := M2953.call0 K2963
      refine ⟨_, rfl, ?_⟩
      refine W_nil ?_
      refine N_then ?_
      rcases gx_bif hm with ⟨hc2965, hm⟩ | ⟨hc2965, hm⟩
      · refine G_cond_t (b := r2961) hc2965 (by kernel_rfl) ?_
        refine G_seq ?_
        refine G_region ?_
        refine W_run 2 [(4, .int .i64 s2948)] w2962 (by kernel_rfl) ?_
        refine W_nil ?_
        refine N_then ?_
        refine G_ret ?_
        refine N_block_ret ?_
        refine N_then_ret ?_
        refine N_then_ret ?_
        obtain rfl := Option.some.inj hm
        obtain rfl := hout2950 _ rfl
        have hm := hmo2957; simp only [Sum.elim_inr] at hm
        refine N_block_ret ?_
        refine N_meet_ret ?_
        refine N_then_ret ?_
        obtain rfl := Option.some.inj hm
        refine N_ret [.int .i64 s2948] (RVs_cons (RV_tmp (by kernel_rfl)) RVs_nil) ?_
        exact ⟨rfl, M2964.pick [] (by kernel_rfl)⟩
      · refine G_cond_f (b := r2961) hc2965 (by kernel_rfl) ?_
        refine G_skip ?_
        refine N_block ?_
        refine N_then ?_
        refine G_region ?_
        refine W_run 2 [(0, .slice p2899 x2897.length c2900), (1, .func (.func 82) #[] #[.pointer (some ⟨b2906, 0, none⟩)]), (7, .int .i64 (x2897.length : Int)), (8, .int .i64 (w64 (s2948 + 1)))] w2962 (by kernel_rfl) ?_
        refine W_nil ?_
        obtain rfl := Option.some.inj hm
        exact N_loop fun a ha => ⟨_, rfl, M2964.pick [] (by kernel_rfl), ha.sub (by kernel_rfl)⟩
    · refine G_cond_f (b := (decide (s2948 < (x2897.length : Int)))) hc2959 (by kernel_rfl) ?_
      refine G_exit ?_
      refine N_then_exit ?_
      refine N_then_exit ?_
      refine N_block_eq ?_
      obtain rfl := Option.some.inj hm
      obtain rfl := hout2950 _ rfl
      exact N_meet fun a ha => ⟨_, rfl, M2953.pick [] (by kernel_rfl), ha.sub (by kernel_rfl)⟩
  · intro a2966 w2967 ⟨o2958, hout_, M2968, hS2969⟩
    refine N_use hS2969 ?_
    subst hout_
    have hm := hmo2957; simp only [Sum.elim_inl] at hm
    refine N_then ?_
    refine G_seq ?_
    refine G_region ?_
    refine W_run 1 [(4, .int .i64 (-1))] w2967 (by kernel_rfl) ?_
    refine W_nil ?_
    refine N_then ?_
    refine G_ret ?_
    obtain rfl := Option.some.inj hm
    refine N_ret [.int .i64 (-1)] (RVs_cons (RV_tmp (by kernel_rfl)) RVs_nil) ?_
    exact ⟨rfl, M2968.pick [] (by kernel_rfl)⟩
theorem c_slices_DeleteFunc_81__i_eventsWhere_1__i_CountKinds_1 (w : World) (x3001 : List Event) (p3003 : Option Addr) (c3004 : Nat) (sg3005 : Seg) (ho3006 : ownS encEvent x3001 p3003 c3004 sg3005) (x3007 : ByteArray) (b3008 : Nat) (hb3009 : w.heap[b3008]? = some (.cells ⟨[.string x3007]⟩ 9 (0, 0))) (b3012 : Nat) (hb3013 : w.heap[b3012]? = some (.cells ⟨[.func (.func 72) #[] #[.pointer (some ⟨b3008, 0, none⟩)]]⟩ 25 (0, 0))) (hA : ∀ q ∈ List.flatten [sg3005], w.heap[q.1]? = some q.2) (hN : (idsOf [sg3005]).Nodup) (nf3011 : b3008 ∉ (idsOf [sg3005])) (nf3015 : b3012 ∉ (idsOf [sg3005])) {r : (List Event) × (List Event)} (hm : M.slices_DeleteFunc_81__i_eventsWhere_1__i_CountKinds_1 x3001 x3007 = some r) :
    Calls Try.prog 81 #[.slice p3003 x3001.length c3004, .func (.func 82) #[] #[.pointer (some ⟨b3012, 0, none⟩)]] w fun e w' => ∃ (sg3016 : Seg), ∃ (p3018 : Option Addr) (c3019 : Nat), e = .returned (.slice p3018 r.1.length c3019) ∧ ownS encEvent r.2 p3003 c3004 sg3016 ∧ r.2.length = x3001.length ∧ viewS 4 r.2 p3003 c3004 p3018 c3019 r.1 ∧ Mem (idsOf [sg3005]) w w' [sg3016] := by
  unfold M.slices_DeleteFunc_81__i_eventsWhere_1__i_CountKinds_1 at hm
  refine C_enter Try.func81 rfl (by kernel_rfl) ?_
  have M0 := Mem.start' w [sg3005] hA hN
  refine G_seq ?_
  refine G_region ?_
  refine W_run 1 [(0, .slice p3003 x3001.length c3004), (1, .func (.func 82) #[] #[.pointer (some ⟨b3012, 0, none⟩)])] w (by kernel_rfl) ?_
  refine W_nil ?_
  refine N_then ?_
  refine G_seq ?_
  refine G_region ?_
  refine W_run 2 [(0, .slice p3003 x3001.length c3004), (1, .func (.func 82) #[] #[.pointer (some ⟨b3012, 0, none⟩)]), (8, .slice p3003 x3001.length c3004), (9, .func (.func 82) #[] #[.pointer (some ⟨b3012, 0, none⟩)])] w (by kernel_rfl) ?_
  obtain ⟨r3021, hr3021, hm⟩ := gx_bind hm
  refine W_call 59 #[.slice p3003 x3001.length c3004, .func (.func 82) #[] #[.pointer (some ⟨b3012, 0, none⟩)]] (by kernel_rfl) (by kernel_rfl) ?_
  refine (c_slices_IndexFunc_59__i_eventsWhere_1__i_CountKinds_1 w x3001 p3003 c3004 (ho3006.rd M0 0 (by kernel_rfl)) x3007 b3008 (M0.roX hb3009 nf3011) b3012 (M0.roX hb3013 nf3015) hr3021).mono ?_
  rintro e_ w3022 ⟨rfl, K3023⟩
  have M3024 := M0.call0 K3023
  refine ⟨_, rfl, ?_⟩
  refine W_run 1 [(0, .slice p3003 x3001.length c3004), (1, .func (.func 82) #[] #[.pointer (some ⟨b3012, 0, none⟩)]), (5, .int .i64 r3021)] w3022 (by kernel_rfl) ?_
  refine W_nil ?_
  refine N_then ?_
  refine G_seq ?_
  refine G_seq ?_
  refine G_region ?_
  refine W_run 2 [(0, .slice p3003 x3001.length c3004), (1, .func (.func 82) #[] #[.pointer (some ⟨b3012, 0, none⟩)]), (5, .int .i64 r3021), (12, .bool (r3021 == (-1)))] w3022 (by kernel_rfl) ?_
  refine W_nil ?_
  refine N_then ?_
  rcases gx_bif hm with ⟨hc3025, hm⟩ | ⟨hc3025, hm⟩
  · refine G_cond_t (b := (r3021 == (-1))) hc3025 (by kernel_rfl) ?_
    refine G_seq ?_
    refine G_region ?_
    refine W_run 2 [(4, .slice p3003 x3001.length c3004)] w3022 (by kernel_rfl) ?_
    refine W_nil ?_
    refine N_then ?_
    refine G_ret ?_
    refine N_then_ret ?_
    obtain rfl := Option.some.inj hm
    refine N_ret [.slice p3003 x3001.length c3004] (RVs_cons (RV_tmp (by kernel_rfl)) RVs_nil) ?_
    exact ⟨sg3005, p3003, c3004, rfl, ho3006, rfl, (viewS_self ho3006), M3024.pick [0] (by kernel_rfl)⟩
  · refine G_cond_f (b := (r3021 == (-1))) hc3025 (by kernel_rfl) ?_
    refine G_skip ?_
    refine N_then ?_
    refine G_seq ?_
    refine G_seq ?_
    refine G_region ?_
    refine W_run 3 [(0, .slice p3003 x3001.length c3004), (1, .func (.func 82) #[] #[.pointer (some ⟨b3012, 0, none⟩)]), (5, .int .i64 r3021), (6, .int .i64 (w64 (r3021 + 1)))] w3022 (by kernel_rfl) ?_
    refine W_nil ?_
    refine N_then ?_
    obtain ⟨out3104, hw3105, hmo3106⟩ := gx_bind hm
    refine G_meet (fun a w' => ∃ (sg3111 : Seg), ownS encEvent out3104.2 p3003 c3004 sg3111 ∧ out3104.2.length = x3001.length ∧ Mem (idsOf [sg3005]) w w' [sg3111] ∧ Sat Try.f81.ntmps [(0, .slice p3003 out3104.2.length c3004), (5, .int .i64 out3104.1)] a) ?_ ?_
    · refine G_block ?_
      refine G_while (σ := Int × Int × List Event) (ρ := Int × List Event) (fun s3097 a w' => ∃ (sg3107 : Seg), ownS encEvent s3097.2.2 p3003 c3004 sg3107 ∧ s3097.2.2.length = x3001.length ∧ Mem (idsOf [sg3005]) w w' [sg3107] ∧ Sat Try.f81.ntmps [(0, .slice p3003 s3097.2.2.length c3004), (1, .func (.func 82) #[] #[.pointer (some ⟨b3012, 0, none⟩)]), (5, .int .i64 s3097.1), (6, .int .i64 s3097.2.1)] a) hw3105 (fun a ha => ⟨sg3005, ho3006, rfl, M3024.pick [0] (by kernel_rfl), ha.sub (by kernel_rfl)⟩) ?_
      clear hm
      intro s3097 x3098 hm hout3099 a3100 w3101 ⟨sg3107, ho3108, hl3109, M3102, hS3103⟩
      refine G_use hS3103 ?_
      refine G_seq ?_
      refine G_seq ?_
      refine G_region ?_
      refine W_run 4 [(0, .slice p3003 s3097.2.2.length c3004), (1, .func (.func 82) #[] #[.pointer (some ⟨b3012, 0, none⟩)]), (5, .int .i64 s3097.1), (6, .int .i64 s3097.2.1), (19, .bool (decide (s3097.2.1 < (s3097.2.2.length : Int))))] w3101 (by kernel_rfl) ?_
      refine W_nil ?_
      refine N_then ?_
      rcases gx_bif hm with ⟨hc3114, hm⟩ | ⟨hc3114, hm⟩
      · refine G_cond_t (b := (decide (s3097.2.1 < (s3097.2.2.length : Int)))) hc3114 (by kernel_rfl) ?_
        refine G_skip ?_
        refine N_then ?_
        refine G_seq ?_
        refine G_block ?_
        refine G_seq ?_
        refine G_region ?_
        refine W_run 2 [(0, .slice p3003 s3097.2.2.length c3004), (1, .func (.func 82) #[] #[.pointer (some ⟨b3012, 0, none⟩)]), (5, .int .i64 s3097.1), (6, .int .i64 s3097.2.1), (22, .slice p3003 s3097.2.2.length c3004), (23, .int .i64 s3097.2.1)] w3101 (by kernel_rfl) ?_
        obtain ⟨y3115, hy3115, hm⟩ := gx_bind hm
        refine W_val (elemP p3003 (s3097.2.1.toNat * 4)) w3101 (by kernel_rfl) (E_index (E := encEvent) _ _ _ s3097.2.2.length c3004 .i64 s3097.2.1 4 (y := y3115) rfl (by kernel_rfl) (by kernel_rfl) (by kernel_rfl) (ho3108.rd M3102 0 (by kernel_rfl)) rfl hy3115) ?_
        refine W_val (.agg #[.int .i64 y3115.Tick, .int .i64 y3115.Guest, .string y3115.Kind, .int .i64 y3115.Value]) w3101 (by kernel_rfl) (E_loadE (E := encEvent) _ _ true 4 s3097.2.1 0 (s3097.2.1.toNat * 4) y3115 (.agg #[.int .i64 y3115.Tick, .int .i64 y3115.Guest, .string y3115.Kind, .int .i64 y3115.Value]) rfl (by kernel_rfl) (by kernel_rfl) (by kernel_rfl) (ho3108.rd M3102 0 (by kernel_rfl)) hy3115 rfl) ?_
        refine W_new (fun b => .pointer (some ⟨b, 0, none⟩)) (.cells ⟨[.int .i64 0, .int .i64 0, .string ByteArray.empty, .int .i64 0]⟩ 26 (0, 0)) M3102 rfl (by kernel_rfl) (by kernel_rfl) ?_
        intro b3117 w3118 M3119
        refine W_store _ _ _ true 4 b3117 0 [.int .i64 0, .int .i64 0, .string ByteArray.empty, .int .i64 0] 26 (.agg #[.int .i64 y3115.Tick, .int .i64 y3115.Guest, .string y3115.Kind, .int .i64 y3115.Value]) 1 [.int .i64 y3115.Tick, .int .i64 y3115.Guest, .string y3115.Kind, .int .i64 y3115.Value] M3119 (by kernel_rfl) rfl (by kernel_rfl) (by kernel_rfl) (by kernel_rfl) (by kernel_rfl) (by kernel_rfl) (by kernel_rfl) (by kernel_rfl) (by kernel_rfl) ?_
        intro w3120 M3121
        refine W_nil ?_
        refine N_then ?_
        refine G_seq ?_
        refine G_region ?_
        refine W_run 1 [(0, .slice p3003 s3097.2.2.length c3004), (1, .func (.func 82) #[] #[.pointer (some ⟨b3012, 0, none⟩)]), (5, .int .i64 s3097.1), (6, .int .i64 s3097.2.1), (7, .pointer (some ⟨b3117, 0, none⟩)), (26, .func (.func 82) #[] #[.pointer (some ⟨b3012, 0, none⟩)])] w3120 (by kernel_rfl) ?_
        refine W_val (.agg #[.int .i64 y3115.Tick, .int .i64 y3115.Guest, .string y3115.Kind, .int .i64 y3115.Value]) w3120 (by kernel_rfl) (E_load (e := 26) (fr := (0, 0)) _ _ true 4 b3117 0 [.int .i64 y3115.Tick, .int .i64 y3115.Guest, .string y3115.Kind, .int .i64 y3115.Value] (.agg #[.int .i64 y3115.Tick, .int .i64 y3115.Guest, .string y3115.Kind, .int .i64 y3115.Value]) rfl (by kernel_rfl) (by kernel_rfl) (by kernel_rfl) (M3121.blk 1 (b := b3117) (o := .cells ⟨[.int .i64 y3115.Tick, .int .i64 y3115.Guest, .string y3115.Kind, .int .i64 y3115.Value]⟩ 26 (0, 0)) (by kernel_rfl))) ?_
        obtain ⟨r3122, hr3122, hm⟩ := gx_bind hm
        refine W_call 82 #[.agg #[.int .i64 y3115.Tick, .int .i64 y3115.Guest, .string y3115.Kind, .int .i64 y3115.Value], .pointer (some ⟨b3012, 0, none⟩)] (by kernel_rfl) (by kernel_rfl) ?_
        refine (c_i_eventsWhere_1__i_CountKinds_1 w3120 y3115 x3007 b3008 (M3121.roX hb3009 nf3011) b3012 (M3121.roX hb3013 nf3015) hr3122).mono ?_
        rintro e_ w3123 ⟨rfl, K3124⟩
        have M3125 := M3121.call0 K3124
        refine ⟨_, rfl, ?_⟩
        refine W_run 1 [(0, .slice p3003 s3097.2.2.length c3004), (1, .func (.func 82) #[] #[.pointer (some ⟨b3012, 0, none⟩)]), (5, .int .i64 s3097.1), (6, .int .i64 s3097.2.1), (7, .pointer (some ⟨b3117, 0, none⟩)), (29, .bool (!r3122))] w3123 (by kernel_rfl) ?_
        refine W_nil ?_
        refine N_then ?_
        obtain ⟨o3132, ho3133, hm3134⟩ := gx_bind hm
        refine G_meet (fun a w' => ∃ (sg3135 : Seg), ownS encEvent o3132.2 p3003 c3004 sg3135 ∧ o3132.2.length = x3001.length ∧ Mem (idsOf [sg3005]) w w' [sg3135] ∧ Sat Try.f81.ntmps [(0, .slice p3003 o3132.2.length c3004), (1, .func (.func 82) #[] #[.pointer (some ⟨b3012, 0, none⟩)]), (5, .int .i64 o3132.1), (6, .int .i64 s3097.2.1)] a) ?_ ?_
        · have hm := ho3133
          rcases gx_bif hm with ⟨hc3138, hm⟩ | ⟨hc3138, hm⟩
          · refine G_cond_t (b := (!r3122)) hc3138 (by kernel_rfl) ?_
            refine G_seq ?_
            refine G_region ?_
            refine W_run 2 [(0, .slice p3003 s3097.2.2.length c3004), (1, .func (.func 82) #[] #[.pointer (some ⟨b3012, 0, none⟩)]), (5, .int .i64 s3097.1), (6, .int .i64 s3097.2.1), (7, .pointer (some ⟨b3117, 0, none⟩)), (30, .slice p3003 s3097.2.2.length c3004), (31, .int .i64 s3097.1)] w3123 (by kernel_rfl) ?_
            refine W_val (.agg #[.int .i64 y3115.Tick, .int .i64 y3115.Guest, .string y3115.Kind, .int .i64 y3115.Value]) w3123 (by kernel_rfl) (E_load (e := 26) (fr := (0, 0)) _ _ true 4 b3117 0 [.int .i64 y3115.Tick, .int .i64 y3115.Guest, .string y3115.Kind, .int .i64 y3115.Value] (.agg #[.int .i64 y3115.Tick, .int .i64 y3115.Guest, .string y3115.Kind, .int .i64 y3115.Value]) rfl (by kernel_rfl) (by kernel_rfl) (by kernel_rfl) (M3125.blk 1 (b := b3117) (o := .cells ⟨[.int .i64 y3115.Tick, .int .i64 y3115.Guest, .string y3115.Kind, .int .i64 y3115.Value]⟩ 26 (0, 0)) (by kernel_rfl))) ?_
            obtain ⟨y3139, hy3139, hm⟩ := gx_bind hm
            refine W_val (elemP p3003 (s3097.1.toNat * 4)) w3123 (by kernel_rfl) (E_index (E := encEvent) _ _ _ s3097.2.2.length c3004 .i64 s3097.1 4 (y := y3139) rfl (by kernel_rfl) (by kernel_rfl) (by kernel_rfl) (ho3108.rd M3125 0 (by kernel_rfl)) rfl hy3139) ?_
            refine W_storeE (E := encEvent) _ _ _ true 4 s3097.1.toNat 0 (s3097.1.toNat * 4) y3139 y3115 (.agg #[.int .i64 y3115.Tick, .int .i64 y3115.Guest, .string y3115.Kind, .int .i64 y3115.Value]) 0 M3125 ho3108 (by kernel_rfl) (by kernel_rfl) rfl (by kernel_rfl) (by kernel_rfl) (by kernel_rfl) (by kernel_rfl) (by kernel_rfl) (by kernel_rfl) (by kernel_rfl) (gxIdx_spec hy3139).2 rfl ?_
            intro w3140 sg3142 ho3143 M3141
            refine W_conv 0 (.slice p3003 s3097.2.2.length c3004) (.slice p3003 (s3097.2.2.set s3097.1.toNat y3115).length c3004) (by kernel_rfl) (by rw [@List.length_set _ s3097.2.2 s3097.1.toNat y3115]) ?_
            refine W_conv 30 (.slice p3003 s3097.2.2.length c3004) (.slice p3003 (s3097.2.2.set s3097.1.toNat y3115).length c3004) (by kernel_rfl) (by rw [@List.length_set _ s3097.2.2 s3097.1.toNat y3115]) ?_
            refine W_nil ?_
            refine N_then ?_
            refine G_region ?_
            refine W_run 3 [(0, .slice p3003 (s3097.2.2.set s3097.1.toNat y3115).length c3004), (1, .func (.func 82) #[] #[.pointer (some ⟨b3012, 0, none⟩)]), (5, .int .i64 (w64 (s3097.1 + 1))), (6, .int .i64 s3097.2.1)] w3140 (by kernel_rfl) ?_
            refine W_nil ?_
            obtain rfl := Option.some.inj hm
            exact N_meet fun a ha => ⟨sg3142, ho3143, (List.length_set.trans hl3109), M3141.pick [0] (by kernel_rfl), ha.sub (by kernel_rfl)⟩
          · refine G_cond_f (b := (!r3122)) hc3138 (by kernel_rfl) ?_
            refine G_skip ?_
            obtain rfl := Option.some.inj hm
            exact N_meet fun a ha => ⟨sg3107, ho3108, hl3109, M3125.pick [0] (by kernel_rfl), ha.sub (by kernel_rfl)⟩
        · intro a3146 w3144 ⟨sg3135, ho3136, hl3137, M3145, hS3147⟩
          refine N_use hS3147 ?_
          have hm := hm3134
          refine N_block ?_
          refine N_then ?_
          refine G_region ?_
          refine W_run 3 [(0, .slice p3003 o3132.2.length c3004), (1, .func (.func 82) #[] #[.pointer (some ⟨b3012, 0, none⟩)]), (5, .int .i64 o3132.1), (6, .int .i64 (w64 (s3097.2.1 + 1)))] w3144 (by kernel_rfl) ?_
          refine W_nil ?_
          obtain rfl := Option.some.inj hm
          exact N_loop fun a ha => ⟨_, rfl, sg3135, ho3136, hl3137, M3145.pick [0] (by kernel_rfl), ha.sub (by kernel_rfl)⟩
      · refine G_cond_f (b := (decide (s3097.2.1 < (s3097.2.2.length : Int)))) hc3114 (by kernel_rfl) ?_
        refine G_exit ?_
        refine N_then_exit ?_
        refine N_then_exit ?_
        refine N_block_eq ?_
        obtain rfl := Option.some.inj hm
        obtain rfl := hout3099 _ rfl
        exact N_meet fun a ha => ⟨sg3107, ho3108, hl3109, M3102.pick [0] (by kernel_rfl), ha.sub (by kernel_rfl)⟩
    · intro a3148 w3149 ⟨sg3111, ho3112, hl3113, M3150, hS3151⟩
      refine N_use hS3151 ?_
      have hm := hmo3106
      refine N_then ?_
      refine G_seq ?_
      refine G_region ?_
      refine W_run 2 [(0, .slice p3003 out3104.2.length c3004), (5, .int .i64 out3104.1), (36, .slice p3003 out3104.2.length c3004), (37, .int .i64 out3104.1)] w3149 (by kernel_rfl) ?_
      obtain ⟨ys3152, hys3152, hm⟩ := gx_bind hm
      refine W_val (.slice (subP p3003 out3104.1.toNat c3004 4) ys3152.length (c3004 - out3104.1.toNat)) w3149 (by kernel_rfl) (E_slice (E := encEvent) _ _ _ _ out3104.2.length out3104.1 (out3104.2.length : Int) rfl (by kernel_rfl) (Or.inr ⟨_, rfl, by kernel_rfl⟩) (Or.inl ⟨rfl, rfl⟩) (by kernel_rfl) (ho3112.rd M3150 0 (by kernel_rfl)) rfl hys3152) ?_
      refine W_clear (E := encEvent) _ _ out3104.1 (out3104.2.length : Int) 40 [.int .i64 0, .int .i64 0, .string ByteArray.empty, .int .i64 0] ((⟨0, 0, ByteArray.empty, 0⟩ : Event) : Event) 0 M3150 ho3112 (by kernel_rfl) (by kernel_rfl) (by kernel_rfl) rfl (by kernel_rfl) hys3152 (by kernel_rfl) (by kernel_rfl) ?_
      intro w3154 sg3156 ho3157 M3155
      refine W_conv 0 (.slice p3003 out3104.2.length c3004) (.slice p3003 (gxClear out3104.2 out3104.1 (out3104.2.length : Int) ((⟨0, 0, ByteArray.empty, 0⟩ : Event) : Event)).length c3004) (by kernel_rfl) (by rw [gxClear_len ((⟨0, 0, ByteArray.empty, 0⟩ : Event) : Event) hys3152]) ?_
      refine W_conv 36 (.slice p3003 out3104.2.length c3004) (.slice p3003 (gxClear out3104.2 out3104.1 (out3104.2.length : Int) ((⟨0, 0, ByteArray.empty, 0⟩ : Event) : Event)).length c3004) (by kernel_rfl) (by rw [gxClear_len ((⟨0, 0, ByteArray.empty, 0⟩ : Event) : Event) hys3152]) ?_
      refine W_nil ?_
      refine N_then ?_
      refine G_seq ?_
      refine G_region ?_
      refine W_run 2 [(39, .slice p3003 (gxClear out3104.2 out3104.1 (out3104.2.length : Int) ((⟨0, 0, ByteArray.empty, 0⟩ : Event) : Event)).length c3004), (40, .int .i64 out3104.1)] w3154 (by kernel_rfl) ?_
      obtain ⟨ys3158, hys3158, hm⟩ := gx_bind hm
      refine W_val (.slice (subP p3003 (0 : Int).toNat c3004 4) ys3158.length (c3004 - (0 : Int).toNat)) w3154 (by kernel_rfl) (E_slice (E := encEvent) _ _ _ _ (gxClear out3104.2 out3104.1 (out3104.2.length : Int) ((⟨0, 0, ByteArray.empty, 0⟩ : Event) : Event)).length 0 out3104.1 rfl (by kernel_rfl) (Or.inl ⟨rfl, rfl⟩) (Or.inr ⟨_, rfl, by kernel_rfl⟩) (by kernel_rfl) (ho3157.rd M3155 0 (by kernel_rfl)) rfl hys3158) ?_
      refine W_run 1 [(4, .slice (subP p3003 (0 : Int).toNat c3004 4) ys3158.length (c3004 - (0 : Int).toNat))] w3154 (by kernel_rfl) ?_
      refine W_nil ?_
      refine N_then ?_
      refine G_ret ?_
      obtain rfl := Option.some.inj hm
      refine N_ret [.slice (subP p3003 (0 : Int).toNat c3004 4) ys3158.length (c3004 - (0 : Int).toNat)] (RVs_cons (RV_tmp (by kernel_rfl)) RVs_nil) ?_
      exact ⟨sg3156, (subP p3003 (0 : Int).toNat c3004 4), (c3004 - (0 : Int).toNat), rfl, ho3157, ((gxClear_len ((⟨0, 0, ByteArray.empty, 0⟩ : Event) : Event) hys3152).trans hl3113), ⟨0, out3104.1, rfl, rfl, hys3158⟩, M3155.pick [0] (by kernel_rfl)⟩
theorem c_i_eventsWhere__i_CountKinds_1 (w : World) (x2847 : List Event) (p2849 : Option Addr) (c2850 : Nat) (h2851 : rdS encEvent w x2847 p2849 c2850) (x2852 : ByteArray) (b2853 : Nat) (hb2854 : w.heap[b2853]? = some (.cells ⟨[.string x2852]⟩ 9 (0, 0))) {r : (List Event)} (hm : M.i_eventsWhere__i_CountKinds_1 x2847 x2852 = some r) :
    Calls Try.prog 62 #[.slice p2849 x2847.length c2850, .func (.func 72) #[] #[.pointer (some ⟨b2853, 0, none⟩)]] w fun e w' => ∃ (p2857 : Option Addr) (c2858 : Nat) (sg2859 : Seg), e = .returned (.slice p2857 r.length c2858) ∧ ownS encEvent r p2857 c2858 sg2859 ∧ Mem [] w w' [sg2859] := by
  unfold M.i_eventsWhere__i_CountKinds_1 at hm
  refine C_enter Try.func62 rfl (by kernel_rfl) ?_
  have M0 := Mem.refl [] w
  refine G_seq ?_
  refine G_region ?_
  refine W_new (fun b => .pointer (some ⟨b, 0, none⟩)) (.cells ⟨[.func (.func 72) #[] #[.pointer (some ⟨b2853, 0, none⟩)]]⟩ 25 (0, 0)) M0 rfl (by kernel_rfl) (by kernel_rfl) ?_
  intro b2861 w2862 M2863
  refine W_run 1 [(0, .slice p2849 x2847.length c2850), (3, .pointer (some ⟨b2861, 0, none⟩))] w2862 (by kernel_rfl) ?_
  refine W_nil ?_
  refine N_then ?_
  refine G_seq ?_
  refine G_region ?_
  refine W_lit (E := encEvent) ([] : List Event) 0 [] 26 M2863 (by kernel_rfl) (by kernel_rfl) (by kernel_rfl) (by kernel_rfl) (by kernel_rfl) ?_
  intro p2865 c2866 sg2867 w2868 ho2869 M2870
  refine W_run 1 [(3, .pointer (some ⟨b2861, 0, none⟩)), (5, .slice p2865 ([] : List Event).length c2866), (6, .slice p2849 x2847.length c2850)] w2868 (by kernel_rfl) ?_
  obtain ⟨ap2872, hap2872, hm⟩ := gx_bind hm
  refine W_append (E := encEvent) _ _ _ 40 [.int .i64 0, .int .i64 0, .string ByteArray.empty, .int .i64 0] 1 c2850 M2870 ho2869 (by kernel_rfl) (by kernel_rfl) (by kernel_rfl) rfl (by kernel_rfl) (by kernel_rfl) (by kernel_rfl) (by kernel_rfl) (by kernel_rfl) (by kernel_rfl) (h2851.mem0 M2870) hap2872 ?_
  intro p2873 c2874 sg2875 w2876 ho2877 M2878
  refine W_run 1 [(7, .slice p2873 ap2872.length c2874), (8, .func (.func 82) #[] #[.pointer (some ⟨b2861, 0, none⟩)])] w2876 (by kernel_rfl) ?_
  obtain ⟨r3160, hr3160, hm⟩ := gx_bind hm
  refine W_call 81 #[.slice p2873 ap2872.length c2874, .func (.func 82) #[] #[.pointer (some ⟨b2861, 0, none⟩)]] (by kernel_rfl) (by kernel_rfl) ?_
  refine (c_slices_DeleteFunc_81__i_eventsWhere_1__i_CountKinds_1 w2876 ap2872 p2873 c2874 sg2875 ho2877 x2852 b2853 (M2878.ro hb2854) b2861 (M2878.blk 0 (b := b2861) (o := .cells ⟨[.func (.func 72) #[] #[.pointer (some ⟨b2853, 0, none⟩)]]⟩ 25 (0, 0)) (by kernel_rfl)) (M2878.hasPick [1]) (M2878.nodupPick [1] (by kernel_rfl)) (blkOld M2878 hb2854 (by simp) [1]) (blkApart M2878 0 (o := .cells ⟨[.func (.func 72) #[] #[.pointer (some ⟨b2853, 0, none⟩)]]⟩ 25 (0, 0)) (by kernel_rfl) [1] (by kernel_rfl)) hr3160).mono ?_
  rintro e_ w3171 ⟨sg3161, p3169, c3170, rfl, ho3162, hl3163, hw3168, K3172⟩
  obtain ⟨l3165, h3166, rfl, rfl, hv3167⟩ := hw3168
  have M3173 := M2878.callF' [1] [0] (by kernel_rfl) K3172
  refine ⟨_, rfl, ?_⟩
  refine W_conv 7 (.slice p2873 ap2872.length c2874) (.slice p2873 r3160.2.length c2874) (by kernel_rfl) (by first | rw [hl3163] | rw [hl3163]) ?_
  refine W_run 1 [(4, .slice (subP p2873 l3165.toNat c2874 4) r3160.1.length (c2874 - l3165.toNat))] w3171 (by kernel_rfl) ?_
  refine W_nil ?_
  refine N_then ?_
  refine G_ret ?_
  obtain rfl := Option.some.inj hm
  refine N_ret [.slice (subP p2873 l3165.toNat c2874 4) r3160.1.length (c2874 - l3165.toNat)] (RVs_cons (RV_tmp (by kernel_rfl)) RVs_nil) ?_
  exact ⟨(subP p2873 l3165.toNat c2874 4), (c2874 - l3165.toNat), sg3161, rfl, (ho3162.partM hv3167), M3173.pick [1] (by kernel_rfl)⟩
theorem c_i_CountKinds (w : World) (x2335 : List Event) (p2337 : Option Addr) (c2338 : Nat) (h2339 : rdS encEvent w x2335 p2337 c2338) {r : (List ByteArray) × (List Int) × Bool} (hm : M.i_CountKinds x2335 = some r) :
    Calls Try.prog 37 #[.slice p2337 x2335.length c2338] w fun e w' => ∃ (p2341 : Option Addr) (c2342 : Nat) (sg2343 : Seg), ∃ (p2345 : Option Addr) (c2346 : Nat) (sg2347 : Seg), e = .returned (.tuple #[.slice p2341 r.1.length c2342, .slice p2345 r.2.1.length c2346, .bool r.2.2]) ∧ ownS Gx.encS r.1 p2341 c2342 sg2343 ∧ ownS Gx.encI r.2.1 p2345 c2346 sg2347 ∧ Mem [] w w' [sg2343, sg2347] := by
  unfold M.i_CountKinds at hm
  refine C_enter Try.func37 rfl (by kernel_rfl) ?_
  have M0 := Mem.refl [] w
  refine G_seq ?_
  refine G_region ?_
  refine W_run 3 [(0, .slice p2337 x2335.length c2338)] w (by kernel_rfl) ?_
  refine W_nil ?_
  refine N_then ?_
  refine G_seq ?_
  refine G_seq ?_
  refine G_region ?_
  refine W_run 1 [(0, .slice p2337 x2335.length c2338), (11, .slice p2337 x2335.length c2338)] w (by kernel_rfl) ?_
  obtain ⟨r2656, hr2656, hm⟩ := gx_bind hm
  refine W_call 20 #[.slice p2337 x2335.length c2338] (by kernel_rfl) (by kernel_rfl) ?_
  refine (c_i_IsRecord w x2335 p2337 c2338 (h2339.mem0 M0) hr2656).mono ?_
  rintro e_ w2657 ⟨rfl, K2658⟩
  have M2659 := M0.call0 K2658
  refine ⟨_, rfl, ?_⟩
  refine W_run 1 [(0, .slice p2337 x2335.length c2338), (13, .bool (!r2656))] w2657 (by kernel_rfl) ?_
  refine W_nil ?_
  refine N_then ?_
  rcases gx_bif hm with ⟨hc2660, hm⟩ | ⟨hc2660, hm⟩
  · refine G_cond_t (b := (!r2656)) hc2660 (by kernel_rfl) ?_
    refine G_seq ?_
    refine G_region ?_
    refine W_run 3 [(2, .slice none 0 0), (3, .slice none 0 0), (4, .bool false)] w2657 (by kernel_rfl) ?_
    refine W_nil ?_
    refine N_then ?_
    refine G_ret ?_
    refine N_then_ret ?_
    obtain rfl := Option.some.inj hm
    refine N_ret [.slice none 0 0, .slice none 0 0, .bool false] (RVs_cons (RV_tmp (by kernel_rfl)) (RVs_cons (RV_tmp (by kernel_rfl)) (RVs_cons (RV_tmp (by kernel_rfl)) RVs_nil))) ?_
    exact ⟨none, 0, [], none, 0, [], rfl, ownS_nil, ownS_nil, M2659.pick [100000, 100001] (by kernel_rfl)⟩
  · refine G_cond_f (b := (!r2656)) hc2660 (by kernel_rfl) ?_
    refine G_skip ?_
    refine N_then ?_
    refine G_seq ?_
    refine G_region ?_
    refine W_lit (E := Gx.encS) ([] : List ByteArray) 0 [] 9 M2659 (by kernel_rfl) (by kernel_rfl) (by kernel_rfl) (by kernel_rfl) (by kernel_rfl) ?_
    intro p2663 c2664 sg2665 w2666 ho2667 M2668
    refine W_lit (E := Gx.encI) ([] : List Int) 0 [] 3 M2668 (by kernel_rfl) (by kernel_rfl) (by kernel_rfl) (by kernel_rfl) (by kernel_rfl) ?_
    intro p2670 c2671 sg2672 w2673 ho2674 M2675
    refine W_run 2 [(0, .slice p2337 x2335.length c2338), (5, .slice p2663 ([] : List ByteArray).length c2664), (6, .slice p2670 ([] : List Int).length c2671)] w2673 (by kernel_rfl) ?_
    refine W_nil ?_
    refine N_then ?_
    refine G_seq ?_
    refine G_seq ?_
    refine G_region ?_
    refine W_run 3 [(0, .slice p2337 x2335.length c2338), (5, .slice p2663 ([] : List ByteArray).length c2664), (6, .slice p2670 ([] : List Int).length c2671), (16, .slice p2337 x2335.length c2338), (17, .int .i64 (x2335.length : Int)), (18, .int .i64 0)] w2673 (by kernel_rfl) ?_
    refine W_nil ?_
    refine N_then ?_
    obtain ⟨out2735, hw2736, hmo2737⟩ := gx_bind hm
    refine G_meet (fun a w' => ∃ (p2744 : Option Addr), ∃ (c2745 : Nat), ∃ (sg2746 : Seg), ownS Gx.encS out2735 p2744 c2745 sg2746 ∧ Mem [] w w' [sg2672, sg2746] ∧ Sat Try.f37.ntmps [(0, .slice p2337 x2335.length c2338), (5, .slice p2744 out2735.length c2745), (6, .slice p2670 ([] : List Int).length c2671)] a) ?_ ?_
    · refine G_block ?_
      refine G_while (σ := List ByteArray × Int) (ρ := List ByteArray) (fun s2728 a w' => ∃ (p2738 : Option Addr), ∃ (c2739 : Nat), ∃ (sg2740 : Seg), ownS Gx.encS s2728.1 p2738 c2739 sg2740 ∧ Mem [] w w' [sg2672, sg2740] ∧ Sat Try.f37.ntmps [(0, .slice p2337 x2335.length c2338), (5, .slice p2738 s2728.1.length c2739), (6, .slice p2670 ([] : List Int).length c2671), (16, .slice p2337 x2335.length c2338), (17, .int .i64 (x2335.length : Int)), (18, .int .i64 s2728.2)] a) hw2736 (fun a ha => ⟨p2663, c2664, sg2665, ho2667, M2675.pick [1, 0] (by kernel_rfl), ha.sub (by kernel_rfl)⟩) ?_
      clear hm
      intro s2728 x2729 hm hout2730 a2731 w2732 ⟨p2738, c2739, sg2740, ho2741, M2733, hS2734⟩
      refine G_use hS2734 ?_
      refine G_seq ?_
      refine G_region ?_
      refine W_run 1 [(0, .slice p2337 x2335.length c2338), (5, .slice p2738 s2728.1.length c2739), (6, .slice p2670 ([] : List Int).length c2671), (16, .slice p2337 x2335.length c2338), (17, .int .i64 (x2335.length : Int)), (18, .int .i64 s2728.2), (19, .bool (decide (s2728.2 < (x2335.length : Int))))] w2732 (by kernel_rfl) ?_
      refine W_nil ?_
      refine N_then ?_
      refine G_seq ?_
      rcases gx_bif hm with ⟨hc2749, hm⟩ | ⟨hc2749, hm⟩
      · refine G_cond_t (b := (decide (s2728.2 < (x2335.length : Int)))) hc2749 (by kernel_rfl) ?_
        refine G_skip ?_
        refine N_then ?_
        refine G_seq ?_
        refine G_block ?_
        refine G_seq ?_
        refine G_region ?_
        obtain ⟨y2750, hy2750, hm⟩ := gx_bind hm
        refine W_val (elemP p2337 (s2728.2.toNat * 4)) w2732 (by kernel_rfl) (E_index (E := encEvent) _ _ _ x2335.length c2338 .i64 s2728.2 4 (y := y2750) rfl (by kernel_rfl) (by kernel_rfl) (by kernel_rfl) (h2339.mem0 M2733) rfl hy2750) ?_
        refine W_val (.agg #[.int .i64 y2750.Tick, .int .i64 y2750.Guest, .string y2750.Kind, .int .i64 y2750.Value]) w2732 (by kernel_rfl) (E_loadE (E := encEvent) _ _ true 4 s2728.2 0 (s2728.2.toNat * 4) y2750 (.agg #[.int .i64 y2750.Tick, .int .i64 y2750.Guest, .string y2750.Kind, .int .i64 y2750.Value]) rfl (by kernel_rfl) (by kernel_rfl) (by kernel_rfl) (h2339.mem0 M2733) hy2750 rfl) ?_
        refine W_new (fun b => .pointer (some ⟨b, 0, none⟩)) (.cells ⟨[.int .i64 0, .int .i64 0, .string ByteArray.empty, .int .i64 0]⟩ 26 (0, 0)) M2733 rfl (by kernel_rfl) (by kernel_rfl) ?_
        intro b2752 w2753 M2754
        refine W_store _ _ _ true 4 b2752 0 [.int .i64 0, .int .i64 0, .string ByteArray.empty, .int .i64 0] 26 (.agg #[.int .i64 y2750.Tick, .int .i64 y2750.Guest, .string y2750.Kind, .int .i64 y2750.Value]) 2 [.int .i64 y2750.Tick, .int .i64 y2750.Guest, .string y2750.Kind, .int .i64 y2750.Value] M2754 (by kernel_rfl) rfl (by kernel_rfl) (by kernel_rfl) (by kernel_rfl) (by kernel_rfl) (by kernel_rfl) (by kernel_rfl) (by kernel_rfl) (by kernel_rfl) ?_
        intro w2755 M2756
        refine W_nil ?_
        refine N_then ?_
        refine G_region ?_
        refine W_run 2 [(0, .slice p2337 x2335.length c2338), (5, .slice p2738 s2728.1.length c2739), (6, .slice p2670 ([] : List Int).length c2671), (16, .slice p2337 x2335.length c2338), (17, .int .i64 (x2335.length : Int)), (18, .int .i64 s2728.2), (22, .slice p2738 s2728.1.length c2739), (23, .pointer (some ⟨b2752, 2, none⟩))] w2755 (by kernel_rfl) ?_
        refine W_val (.string y2750.Kind) w2755 (by kernel_rfl) (E_load (e := 26) (fr := (0, 0)) _ _ false 1 b2752 2 [.int .i64 y2750.Tick, .int .i64 y2750.Guest, .string y2750.Kind, .int .i64 y2750.Value] (.string y2750.Kind) rfl (by kernel_rfl) (by kernel_rfl) (by kernel_rfl) (M2756.blk 2 (b := b2752) (o := .cells ⟨[.int .i64 y2750.Tick, .int .i64 y2750.Guest, .string y2750.Kind, .int .i64 y2750.Value]⟩ 26 (0, 0)) (by kernel_rfl))) ?_
        refine W_lit (E := Gx.encS) [y2750.Kind] 1 [.string y2750.Kind] 9 M2756 (by kernel_rfl) (by kernel_rfl) (by kernel_rfl) (by kernel_rfl) (by kernel_rfl) ?_
        intro p2757 c2758 sg2759 w2760 ho2761 M2762
        obtain ⟨ap2764, hap2764, hm⟩ := gx_bind hm
        refine W_append (E := Gx.encS) _ _ _ 16 [.string ByteArray.empty] 1 c2758 M2762 ho2741 (by kernel_rfl) (by kernel_rfl) (by kernel_rfl) rfl (by kernel_rfl) (by kernel_rfl) (by kernel_rfl) (by kernel_rfl) (by kernel_rfl) (by kernel_rfl) (ho2761.rd M2762 3 (by kernel_rfl)) hap2764 ?_
        intro p2765 c2766 sg2767 w2768 ho2769 M2770
        refine W_run 1 [(0, .slice p2337 x2335.length c2338), (5, .slice p2765 ap2764.length c2766), (6, .slice p2670 ([] : List Int).length c2671), (16, .slice p2337 x2335.length c2338), (17, .int .i64 (x2335.length : Int)), (18, .int .i64 s2728.2)] w2768 (by kernel_rfl) ?_
        refine W_nil ?_
        refine N_block ?_
        refine N_then ?_
        refine G_region ?_
        refine W_run 2 [(0, .slice p2337 x2335.length c2338), (5, .slice p2765 ap2764.length c2766), (6, .slice p2670 ([] : List Int).length c2671), (16, .slice p2337 x2335.length c2338), (17, .int .i64 (x2335.length : Int)), (18, .int .i64 (w64 (s2728.2 + 1)))] w2768 (by kernel_rfl) ?_
        refine W_nil ?_
        obtain rfl := Option.some.inj hm
        exact N_loop fun a ha => ⟨_, rfl, p2765, c2766, sg2767, ho2769, M2770.pick [0, 1] (by kernel_rfl), ha.sub (by kernel_rfl)⟩
      · refine G_cond_f (b := (decide (s2728.2 < (x2335.length : Int)))) hc2749 (by kernel_rfl) ?_
        refine G_exit ?_
        refine N_then_exit ?_
        refine N_then_exit ?_
        refine N_block_eq ?_
        obtain rfl := Option.some.inj hm
        obtain rfl := hout2730 _ rfl
        exact N_meet fun a ha => ⟨p2738, c2739, sg2740, ho2741, M2733.pick [0, 1] (by kernel_rfl), ha.sub (by kernel_rfl)⟩
    · intro a2772 w2773 ⟨p2744, c2745, sg2746, ho2747, M2774, hS2775⟩
      refine N_use hS2775 ?_
      have hm := hmo2737
      refine N_then ?_
      refine G_seq ?_
      refine G_region ?_
      refine W_run 1 [(0, .slice p2337 x2335.length c2338), (5, .slice p2744 out2735.length c2745), (6, .slice p2670 ([] : List Int).length c2671), (28, .slice p2744 out2735.length c2745)] w2773 (by kernel_rfl) ?_
      obtain ⟨r2788, hr2788, hm⟩ := gx_bind hm
      refine W_call 70 #[.slice p2744 out2735.length c2745] (by kernel_rfl) (by kernel_rfl) ?_
      refine (c_slices_Sort_70 w2773 out2735 p2744 c2745 sg2746 ho2747 (M2774.hasPick [1]) (M2774.nodupPick [1] (by kernel_rfl)) hr2788).mono ?_
      rintro e_ w2792 ⟨sg2789, rfl, ho2790, hl2791, K2793⟩
      have M2794 := M2774.callF' [1] [0] (by kernel_rfl) K2793
      refine ⟨_, rfl, ?_⟩
      refine W_conv 5 (.slice p2744 out2735.length c2745) (.slice p2744 r2788.length c2745) (by kernel_rfl) (by first | rw [hl2791] | rw [hl2791]) ?_
      refine W_conv 28 (.slice p2744 out2735.length c2745) (.slice p2744 r2788.length c2745) (by kernel_rfl) (by first | rw [hl2791] | rw [hl2791]) ?_
      refine W_nil ?_
      refine N_then ?_
      refine G_seq ?_
      refine G_region ?_
      refine W_run 1 [(0, .slice p2337 x2335.length c2338), (5, .slice p2744 r2788.length c2745), (6, .slice p2670 ([] : List Int).length c2671), (30, .slice p2744 r2788.length c2745)] w2792 (by kernel_rfl) ?_
      obtain ⟨r2825, hr2825, hm⟩ := gx_bind hm
      refine W_call 71 #[.slice p2744 r2788.length c2745] (by kernel_rfl) (by kernel_rfl) ?_
      refine (c_slices_Compact_71 w2792 r2788 p2744 c2745 sg2789 ho2790 (M2794.hasPick [1]) (M2794.nodupPick [1] (by kernel_rfl)) hr2825).mono ?_
      rintro e_ w2836 ⟨sg2826, p2834, c2835, rfl, ho2827, hl2828, hw2833, K2837⟩
      obtain ⟨l2830, h2831, rfl, rfl, hv2832⟩ := hw2833
      have M2838 := M2794.callF' [1] [0] (by kernel_rfl) K2837
      refine ⟨_, rfl, ?_⟩
      refine W_conv 5 (.slice p2744 r2788.length c2745) (.slice p2744 r2825.2.length c2745) (by kernel_rfl) (by first | rw [hl2828] | rw [hl2828]) ?_
      refine W_conv 30 (.slice p2744 r2788.length c2745) (.slice p2744 r2825.2.length c2745) (by kernel_rfl) (by first | rw [hl2828] | rw [hl2828]) ?_
      refine W_run 1 [(0, .slice p2337 x2335.length c2338), (5, .slice (subP p2744 l2830.toNat c2745 1) r2825.1.length (c2745 - l2830.toNat)), (6, .slice p2670 ([] : List Int).length c2671)] w2836 (by kernel_rfl) ?_
      refine W_nil ?_
      refine N_then ?_
      refine G_seq ?_
      refine G_seq ?_
      refine G_region ?_
      refine W_run 3 [(0, .slice p2337 x2335.length c2338), (5, .slice (subP p2744 l2830.toNat c2745 1) r2825.1.length (c2745 - l2830.toNat)), (6, .slice p2670 ([] : List Int).length c2671), (32, .slice (subP p2744 l2830.toNat c2745 1) r2825.1.length (c2745 - l2830.toNat)), (33, .int .i64 (r2825.1.length : Int)), (34, .int .i64 0)] w2836 (by kernel_rfl) ?_
      refine W_nil ?_
      refine N_then ?_
      obtain ⟨out3242, hw3243, hmo3244⟩ := gx_bind hm
      refine G_meet (fun a w' => ∃ (p3251 : Option Addr), ∃ (c3252 : Nat), ∃ (sg3253 : Seg), ownS Gx.encI out3242 p3251 c3252 sg3253 ∧ Mem [] w w' [sg2826, sg3253] ∧ Sat Try.f37.ntmps [(5, .slice (subP p2744 l2830.toNat c2745 1) r2825.1.length (c2745 - l2830.toNat)), (6, .slice p3251 out3242.length c3252)] a) ?_ ?_
      · refine G_block ?_
        refine G_while (σ := List Int × Int) (ρ := List Int) (fun s3235 a w' => ∃ (p3245 : Option Addr), ∃ (c3246 : Nat), ∃ (sg3247 : Seg), ownS Gx.encI s3235.1 p3245 c3246 sg3247 ∧ Mem [] w w' [sg2826, sg3247] ∧ Sat Try.f37.ntmps [(0, .slice p2337 x2335.length c2338), (5, .slice (subP p2744 l2830.toNat c2745 1) r2825.1.length (c2745 - l2830.toNat)), (6, .slice p3245 s3235.1.length c3246), (32, .slice (subP p2744 l2830.toNat c2745 1) r2825.1.length (c2745 - l2830.toNat)), (33, .int .i64 (r2825.1.length : Int)), (34, .int .i64 s3235.2)] a) hw3243 (fun a ha => ⟨p2670, c2671, sg2672, ho2674, M2838.pick [1, 0] (by kernel_rfl), ha.sub (by kernel_rfl)⟩) ?_
        clear hm
        intro s3235 x3236 hm hout3237 a3238 w3239 ⟨p3245, c3246, sg3247, ho3248, M3240, hS3241⟩
        refine G_use hS3241 ?_
        refine G_seq ?_
        refine G_region ?_
        refine W_run 1 [(0, .slice p2337 x2335.length c2338), (5, .slice (subP p2744 l2830.toNat c2745 1) r2825.1.length (c2745 - l2830.toNat)), (6, .slice p3245 s3235.1.length c3246), (32, .slice (subP p2744 l2830.toNat c2745 1) r2825.1.length (c2745 - l2830.toNat)), (33, .int .i64 (r2825.1.length : Int)), (34, .int .i64 s3235.2), (35, .bool (decide (s3235.2 < (r2825.1.length : Int))))] w3239 (by kernel_rfl) ?_
        refine W_nil ?_
        refine N_then ?_
        refine G_seq ?_
        rcases gx_bif hm with ⟨hc3256, hm⟩ | ⟨hc3256, hm⟩
        · refine G_cond_t (b := (decide (s3235.2 < (r2825.1.length : Int)))) hc3256 (by kernel_rfl) ?_
          refine G_skip ?_
          refine N_then ?_
          refine G_seq ?_
          refine G_block ?_
          refine G_seq ?_
          refine G_region ?_
          obtain ⟨y3257, hy3257, hm⟩ := gx_bind hm
          refine W_val (elemP (subP p2744 l2830.toNat c2745 1) (s3235.2.toNat * 1)) w3239 (by kernel_rfl) (E_index (E := Gx.encS) _ _ _ r2825.1.length (c2745 - l2830.toNat) .i64 s3235.2 1 (y := y3257) rfl (by kernel_rfl) (by kernel_rfl) (by kernel_rfl) ((ho2827.rd M3240 0 (by kernel_rfl)).sliceM hv2832) rfl hy3257) ?_
          refine W_val (.string y3257) w3239 (by kernel_rfl) (E_loadE (E := Gx.encS) _ _ false 1 s3235.2 0 (s3235.2.toNat * 1) y3257 (.string y3257) rfl (by kernel_rfl) (by kernel_rfl) (by kernel_rfl) ((ho2827.rd M3240 0 (by kernel_rfl)).sliceM hv2832) hy3257 rfl) ?_
          refine W_new (fun b => .pointer (some ⟨b, 0, none⟩)) (.cells ⟨[.string ByteArray.empty]⟩ 9 (0, 0)) M3240 rfl (by kernel_rfl) (by kernel_rfl) ?_
          intro b3259 w3260 M3261
          refine W_store _ _ _ false 1 b3259 0 [.string ByteArray.empty] 9 (.string y3257) 2 [.string y3257] M3261 (by kernel_rfl) rfl (by kernel_rfl) (by kernel_rfl) (by kernel_rfl) (by kernel_rfl) (by kernel_rfl) (by kernel_rfl) (by kernel_rfl) (by kernel_rfl) ?_
          intro w3262 M3263
          refine W_nil ?_
          refine N_then ?_
          refine G_region ?_
          refine W_run 3 [(0, .slice p2337 x2335.length c2338), (5, .slice (subP p2744 l2830.toNat c2745 1) r2825.1.length (c2745 - l2830.toNat)), (6, .slice p3245 s3235.1.length c3246), (32, .slice (subP p2744 l2830.toNat c2745 1) r2825.1.length (c2745 - l2830.toNat)), (33, .int .i64 (r2825.1.length : Int)), (34, .int .i64 s3235.2), (38, .slice p3245 s3235.1.length c3246), (39, .slice p2337 x2335.length c2338), (40, .func (.func 72) #[] #[.pointer (some ⟨b3259, 0, none⟩)])] w3262 (by kernel_rfl) ?_
          obtain ⟨r3264, hr3264, hm⟩ := gx_bind hm
          refine W_call 62 #[.slice p2337 x2335.length c2338, .func (.func 72) #[] #[.pointer (some ⟨b3259, 0, none⟩)]] (by kernel_rfl) (by kernel_rfl) ?_
          refine (c_i_eventsWhere__i_CountKinds_1 w3262 x2335 p2337 c2338 (h2339.mem0 M3263) y3257 b3259 (M3263.blk 2 (b := b3259) (o := .cells ⟨[.string y3257]⟩ 9 (0, 0)) (by kernel_rfl)) hr3264).mono ?_
          rintro e_ w3270 ⟨p3266, c3267, sg3268, rfl, ho3269, K3271⟩
          have M3272 := M3263.call K3271
          refine ⟨_, rfl, ?_⟩
          refine W_run 1 [(0, .slice p2337 x2335.length c2338), (5, .slice (subP p2744 l2830.toNat c2745 1) r2825.1.length (c2745 - l2830.toNat)), (6, .slice p3245 s3235.1.length c3246), (32, .slice (subP p2744 l2830.toNat c2745 1) r2825.1.length (c2745 - l2830.toNat)), (33, .int .i64 (r2825.1.length : Int)), (34, .int .i64 s3235.2), (38, .slice p3245 s3235.1.length c3246), (42, .int .i64 (r3264.length : Int))] w3270 (by kernel_rfl) ?_
          refine W_lit (E := Gx.encI) [(r3264.length : Int)] 1 [.int .i64 (r3264.length : Int)] 3 M3272 (by kernel_rfl) (by kernel_rfl) (by kernel_rfl) (by kernel_rfl) (by kernel_rfl) ?_
          intro p3273 c3274 sg3275 w3276 ho3277 M3278
          obtain ⟨ap3280, hap3280, hm⟩ := gx_bind hm
          refine W_append (E := Gx.encI) _ _ _ 8 [.int .i64 0] 1 c3274 M3278 ho3248 (by kernel_rfl) (by kernel_rfl) (by kernel_rfl) rfl (by kernel_rfl) (by kernel_rfl) (by kernel_rfl) (by kernel_rfl) (by kernel_rfl) (by kernel_rfl) (ho3277.rd M3278 4 (by kernel_rfl)) hap3280 ?_
          intro p3281 c3282 sg3283 w3284 ho3285 M3286
          refine W_run 1 [(0, .slice p2337 x2335.length c2338), (5, .slice (subP p2744 l2830.toNat c2745 1) r2825.1.length (c2745 - l2830.toNat)), (6, .slice p3281 ap3280.length c3282), (32, .slice (subP p2744 l2830.toNat c2745 1) r2825.1.length (c2745 - l2830.toNat)), (33, .int .i64 (r2825.1.length : Int)), (34, .int .i64 s3235.2)] w3284 (by kernel_rfl) ?_
          refine W_nil ?_
          refine N_block ?_
          refine N_then ?_
          refine G_region ?_
          refine W_run 2 [(0, .slice p2337 x2335.length c2338), (5, .slice (subP p2744 l2830.toNat c2745 1) r2825.1.length (c2745 - l2830.toNat)), (6, .slice p3281 ap3280.length c3282), (32, .slice (subP p2744 l2830.toNat c2745 1) r2825.1.length (c2745 - l2830.toNat)), (33, .int .i64 (r2825.1.length : Int)), (34, .int .i64 (w64 (s3235.2 + 1)))] w3284 (by kernel_rfl) ?_
          refine W_nil ?_
          obtain rfl := Option.some.inj hm
          exact N_loop fun a ha => ⟨_, rfl, p3281, c3282, sg3283, ho3285, M3286.pick [0, 1] (by kernel_rfl), ha.sub (by kernel_rfl)⟩
        · refine G_cond_f (b := (decide (s3235.2 < (r2825.1.length : Int)))) hc3256 (by kernel_rfl) ?_
          refine G_exit ?_
          refine N_then_exit ?_
          refine N_then_exit ?_
          refine N_block_eq ?_
          obtain rfl := Option.some.inj hm
          obtain rfl := hout3237 _ rfl
          exact N_meet fun a ha => ⟨p3245, c3246, sg3247, ho3248, M3240.pick [0, 1] (by kernel_rfl), ha.sub (by kernel_rfl)⟩
      · intro a3288 w3289 ⟨p3251, c3252, sg3253, ho3254, M3290, hS3291⟩
        refine N_use hS3291 ?_
        have hm := hmo3244
        refine N_then ?_
        refine G_seq ?_
        refine G_region ?_
        refine W_run 5 [(2, .slice (subP p2744 l2830.toNat c2745 1) r2825.1.length (c2745 - l2830.toNat)), (3, .slice p3251 out3242.length c3252), (4, .bool true)] w3289 (by kernel_rfl) ?_
        refine W_nil ?_
        refine N_then ?_
        refine G_ret ?_
        obtain rfl := Option.some.inj hm
        refine N_ret [.slice (subP p2744 l2830.toNat c2745 1) r2825.1.length (c2745 - l2830.toNat), .slice p3251 out3242.length c3252, .bool true] (RVs_cons (RV_tmp (by kernel_rfl)) (RVs_cons (RV_tmp (by kernel_rfl)) (RVs_cons (RV_tmp (by kernel_rfl)) RVs_nil))) ?_
        exact ⟨(subP p2744 l2830.toNat c2745 1), (c2745 - l2830.toNat), sg2826, p3251, c3252, sg3253, rfl, (ho2827.partM hv2832), ho3254, M3290.pick [0, 1] (by kernel_rfl)⟩
theorem c_l_eqStringS (w : World) (x3306 : List ByteArray) (p3308 : Option Addr) (c3309 : Nat) (h3310 : rdS Gx.encS w x3306 p3308 c3309) (x3311 : List ByteArray) (p3313 : Option Addr) (c3314 : Nat) (h3315 : rdS Gx.encS w x3311 p3313 c3314) {r : Bool} (hm : M.l_eqStringS x3306 x3311 = some r) :
    Calls Try.prog 38 #[.slice p3308 x3306.length c3309, .slice p3313 x3311.length c3314] w fun e w' => e = .returned (.bool r) ∧ Mem [] w w' [] := by
  unfold M.l_eqStringS at hm
  refine C_enter Try.func38 rfl (by kernel_rfl) ?_
  have M0 := Mem.refl [] w
  refine G_seq ?_
  refine G_region ?_
  refine W_run 1 [(0, .slice p3308 x3306.length c3309), (1, .slice p3313 x3311.length c3314)] w (by kernel_rfl) ?_
  refine W_nil ?_
  refine N_then ?_
  refine G_seq ?_
  refine G_seq ?_
  refine G_region ?_
  refine W_run 5 [(0, .slice p3308 x3306.length c3309), (1, .slice p3313 x3311.length c3314), (10, .bool ((x3306.length : Int) != (x3311.length : Int)))] w (by kernel_rfl) ?_
  refine W_nil ?_
  refine N_then ?_
  rcases gx_bif hm with ⟨hc3316, hm⟩ | ⟨hc3316, hm⟩
  · refine G_cond_t (b := ((x3306.length : Int) != (x3311.length : Int))) hc3316 (by kernel_rfl) ?_
    refine G_seq ?_
    refine G_region ?_
    refine W_run 1 [(4, .bool false)] w (by kernel_rfl) ?_
    refine W_nil ?_
    refine N_then ?_
    refine G_ret ?_
    refine N_then_ret ?_
    obtain rfl := Option.some.inj hm
    refine N_ret [.bool false] (RVs_cons (RV_tmp (by kernel_rfl)) RVs_nil) ?_
    exact ⟨rfl, M0.pick [] (by kernel_rfl)⟩
  · refine G_cond_f (b := ((x3306.length : Int) != (x3311.length : Int))) hc3316 (by kernel_rfl) ?_
    refine G_skip ?_
    refine N_then ?_
    refine G_seq ?_
    refine G_seq ?_
    refine G_region ?_
    refine W_run 1 [(0, .slice p3308 x3306.length c3309), (1, .slice p3313 x3311.length c3314), (5, .int .i64 0)] w (by kernel_rfl) ?_
    refine W_nil ?_
    refine N_then ?_
    obtain ⟨out3336, hw3337, hmo3338⟩ := gx_bind hm
    refine G_meet (fun a w' => ∃ (o3339 : Unit), out3336 = .inl o3339 ∧ Mem [] w w' [] ∧ Sat Try.f38.ntmps [] a) ?_ ?_
    · refine G_block ?_
      refine G_while (σ := Int) (ρ := (Unit) ⊕ (Bool)) (fun s3329 a w' => Mem [] w w' [] ∧ Sat Try.f38.ntmps [(0, .slice p3308 x3306.length c3309), (1, .slice p3313 x3311.length c3314), (5, .int .i64 s3329)] a) hw3337 (fun a ha => ⟨M0.pick [] (by kernel_rfl), ha.sub (by kernel_rfl)⟩) ?_
      clear hm
      intro s3329 x3330 hm hout3331 a3332 w3333 ⟨M3334, hS3335⟩
      refine G_use hS3335 ?_
      refine G_seq ?_
      refine G_seq ?_
      refine G_region ?_
      refine W_run 4 [(0, .slice p3308 x3306.length c3309), (1, .slice p3313 x3311.length c3314), (5, .int .i64 s3329), (14, .bool (decide (s3329 < (x3306.length : Int))))] w3333 (by kernel_rfl) ?_
      refine W_nil ?_
      refine N_then ?_
      rcases gx_bif hm with ⟨hc3340, hm⟩ | ⟨hc3340, hm⟩
      · refine G_cond_t (b := (decide (s3329 < (x3306.length : Int)))) hc3340 (by kernel_rfl) ?_
        refine G_skip ?_
        refine N_then ?_
        refine G_seq ?_
        refine G_block ?_
        refine G_seq ?_
        refine G_quiet (by kernel_rfl) (by kernel_rfl) M3334 ?_
        refine Z_runs [.slice p3308 x3306.length c3309, .int .i64 s3329] [(0, .slice p3308 x3306.length c3309), (1, .slice p3313 x3311.length c3314), (5, .int .i64 s3329), (17, .slice p3308 x3306.length c3309), (18, .int .i64 s3329)] (fun w_ => by kernel_rfl) (by kernel_rfl) ?_
        obtain ⟨y3341, hy3341, hm⟩ := gx_bind hm
        refine Z_val (elemP p3308 (s3329.toNat * 1)) (by kernel_rfl) (fun w_ M_ => (E_index (E := Gx.encS) _ _ _ x3306.length c3309 .i64 s3329 1 (y := y3341) rfl (by kernel_rfl) (by kernel_rfl) (by kernel_rfl) (h3310.mem0 M_) rfl hy3341)) ?_
        refine Z_val (.string y3341) (by kernel_rfl) (fun w_ M_ => (E_loadE (E := Gx.encS) _ _ false 1 s3329 0 (s3329.toNat * 1) y3341 (.string y3341) rfl (by kernel_rfl) (by kernel_rfl) (by kernel_rfl) (h3310.mem0 M_) hy3341 rfl)) ?_
        refine Z_runs [.slice p3313 x3311.length c3314, .int .i64 s3329] [(0, .slice p3308 x3306.length c3309), (1, .slice p3313 x3311.length c3314), (5, .int .i64 s3329), (20, .string y3341), (21, .slice p3313 x3311.length c3314), (22, .int .i64 s3329)] (fun w_ => by kernel_rfl) (by kernel_rfl) ?_
        obtain ⟨y3342, hy3342, hm⟩ := gx_bind hm
        refine Z_val (elemP p3313 (s3329.toNat * 1)) (by kernel_rfl) (fun w_ M_ => (E_index (E := Gx.encS) _ _ _ x3311.length c3314 .i64 s3329 1 (y := y3342) rfl (by kernel_rfl) (by kernel_rfl) (by kernel_rfl) (h3315.mem0 M_) rfl hy3342)) ?_
        refine Z_val (.string y3342) (by kernel_rfl) (fun w_ M_ => (E_loadE (E := Gx.encS) _ _ false 1 s3329 0 (s3329.toNat * 1) y3342 (.string y3342) rfl (by kernel_rfl) (by kernel_rfl) (by kernel_rfl) (h3315.mem0 M_) hy3342 rfl)) ?_
        refine Z_runs [.bool (!(y3341.toList == y3342.toList))] [(0, .slice p3308 x3306.length c3309), (1, .slice p3313 x3311.length c3314), (5, .int .i64 s3329), (25, .bool (!(y3341.toList == y3342.toList)))] (fun w_ => by kernel_rfl) (by kernel_rfl) ?_
        refine Z_end fun w3343 M3344 => ?_
        refine N_then ?_
        rcases gx_bif hm with ⟨hc3345, hm⟩ | ⟨hc3345, hm⟩
        · refine G_cond_t (b := (!(y3341.toList == y3342.toList))) hc3345 (by kernel_rfl) ?_
          refine G_seq ?_
          refine G_region ?_
          refine W_run 1 [(4, .bool false)] w3343 (by kernel_rfl) ?_
          refine W_nil ?_
          refine N_then ?_
          refine G_ret ?_
          refine N_block_ret ?_
          refine N_then_ret ?_
          refine N_then_ret ?_
          obtain rfl := Option.some.inj hm
          obtain rfl := hout3331 _ rfl
          have hm := hmo3338; simp only [Sum.elim_inr] at hm
          refine N_block_ret ?_
          refine N_meet_ret ?_
          refine N_then_ret ?_
          obtain rfl := Option.some.inj hm
          refine N_ret [.bool false] (RVs_cons (RV_tmp (by kernel_rfl)) RVs_nil) ?_
          exact ⟨rfl, M3344.pick [] (by kernel_rfl)⟩
        · refine G_cond_f (b := (!(y3341.toList == y3342.toList))) hc3345 (by kernel_rfl) ?_
          refine G_skip ?_
          refine N_block ?_
          refine N_then ?_
          refine G_region ?_
          refine W_run 3 [(0, .slice p3308 x3306.length c3309), (1, .slice p3313 x3311.length c3314), (5, .int .i64 (w64 (s3329 + 1)))] w3343 (by kernel_rfl) ?_
          refine W_nil ?_
          obtain rfl := Option.some.inj hm
          exact N_loop fun a ha => ⟨_, rfl, M3344.pick [] (by kernel_rfl), ha.sub (by kernel_rfl)⟩
      · refine G_cond_f (b := (decide (s3329 < (x3306.length : Int)))) hc3340 (by kernel_rfl) ?_
        refine G_exit ?_
        refine N_then_exit ?_
        refine N_then_exit ?_
        refine N_block_eq ?_
        obtain rfl := Option.some.inj hm
        obtain rfl := hout3331 _ rfl
        exact N_meet fun a ha => ⟨_, rfl, M3334.pick [] (by kernel_rfl), ha.sub (by kernel_rfl)⟩
    · intro a3346 w3347 ⟨o3339, hout_, M3348, hS3349⟩
      refine N_use hS3349 ?_
      subst hout_
      have hm := hmo3338; simp only [Sum.elim_inl] at hm
      refine N_then ?_
      refine G_seq ?_
      refine G_region ?_
      refine W_run 1 [(4, .bool true)] w3347 (by kernel_rfl) ?_
      refine W_nil ?_
      refine N_then ?_
      refine G_ret ?_
      obtain rfl := Option.some.inj hm
      refine N_ret [.bool true] (RVs_cons (RV_tmp (by kernel_rfl)) RVs_nil) ?_
      exact ⟨rfl, M3348.pick [] (by kernel_rfl)⟩
theorem c_l_eqIntS (w : World) (x3355 : List Int) (p3357 : Option Addr) (c3358 : Nat) (h3359 : rdS Gx.encI w x3355 p3357 c3358) (x3360 : List Int) (p3362 : Option Addr) (c3363 : Nat) (h3364 : rdS Gx.encI w x3360 p3362 c3363) {r : Bool} (hm : M.l_eqIntS x3355 x3360 = some r) :
    Calls Try.prog 39 #[.slice p3357 x3355.length c3358, .slice p3362 x3360.length c3363] w fun e w' => e = .returned (.bool r) ∧ Mem [] w w' [] := by
  unfold M.l_eqIntS at hm
  refine C_enter Try.func39 rfl (by kernel_rfl) ?_
  have M0 := Mem.refl [] w
  refine G_seq ?_
  refine G_region ?_
  refine W_run 1 [(0, .slice p3357 x3355.length c3358), (1, .slice p3362 x3360.length c3363)] w (by kernel_rfl) ?_
  refine W_nil ?_
  refine N_then ?_
  refine G_seq ?_
  refine G_seq ?_
  refine G_region ?_
  refine W_run 5 [(0, .slice p3357 x3355.length c3358), (1, .slice p3362 x3360.length c3363), (10, .bool ((x3355.length : Int) != (x3360.length : Int)))] w (by kernel_rfl) ?_
  refine W_nil ?_
  refine N_then ?_
  rcases gx_bif hm with ⟨hc3365, hm⟩ | ⟨hc3365, hm⟩
  · refine G_cond_t (b := ((x3355.length : Int) != (x3360.length : Int))) hc3365 (by kernel_rfl) ?_
    refine G_seq ?_
    refine G_region ?_
    refine W_run 1 [(4, .bool false)] w (by kernel_rfl) ?_
    refine W_nil ?_
    refine N_then ?_
    refine G_ret ?_
    refine N_then_ret ?_
    obtain rfl := Option.some.inj hm
    refine N_ret [.bool false] (RVs_cons (RV_tmp (by kernel_rfl)) RVs_nil) ?_
    exact ⟨rfl, M0.pick [] (by kernel_rfl)⟩
  · refine G_cond_f (b := ((x3355.length : Int) != (x3360.length : Int))) hc3365 (by kernel_rfl) ?_
    refine G_skip ?_
    refine N_then ?_
    refine G_seq ?_
    refine G_seq ?_
    refine G_region ?_
    refine W_run 1 [(0, .slice p3357 x3355.length c3358), (1, .slice p3362 x3360.length c3363), (5, .int .i64 0)] w (by kernel_rfl) ?_
    refine W_nil ?_
    refine N_then ?_
    obtain ⟨out3385, hw3386, hmo3387⟩ := gx_bind hm
    refine G_meet (fun a w' => ∃ (o3388 : Unit), out3385 = .inl o3388 ∧ Mem [] w w' [] ∧ Sat Try.f39.ntmps [] a) ?_ ?_
    · refine G_block ?_
      refine G_while (σ := Int) (ρ := (Unit) ⊕ (Bool)) (fun s3378 a w' => Mem [] w w' [] ∧ Sat Try.f39.ntmps [(0, .slice p3357 x3355.length c3358), (1, .slice p3362 x3360.length c3363), (5, .int .i64 s3378)] a) hw3386 (fun a ha => ⟨M0.pick [] (by kernel_rfl), ha.sub (by kernel_rfl)⟩) ?_
      clear hm
      intro s3378 x3379 hm hout3380 a3381 w3382 ⟨M3383, hS3384⟩
      refine G_use hS3384 ?_
      refine G_seq ?_
      refine G_seq ?_
      refine G_region ?_
      refine W_run 4 [(0, .slice p3357 x3355.length c3358), (1, .slice p3362 x3360.length c3363), (5, .int .i64 s3378), (14, .bool (decide (s3378 < (x3355.length : Int))))] w3382 (by kernel_rfl) ?_
      refine W_nil ?_
      refine N_then ?_
      rcases gx_bif hm with ⟨hc3389, hm⟩ | ⟨hc3389, hm⟩
      · refine G_cond_t (b := (decide (s3378 < (x3355.length : Int)))) hc3389 (by kernel_rfl) ?_
        refine G_skip ?_
        refine N_then ?_
        refine G_seq ?_
        refine G_block ?_
        refine G_seq ?_
        refine G_quiet (by kernel_rfl) (by kernel_rfl) M3383 ?_
        refine Z_runs [.slice p3357 x3355.length c3358, .int .i64 s3378] [(0, .slice p3357 x3355.length c3358), (1, .slice p3362 x3360.length c3363), (5, .int .i64 s3378), (17, .slice p3357 x3355.length c3358), (18, .int .i64 s3378)] (fun w_ => by kernel_rfl) (by kernel_rfl) ?_
        obtain ⟨y3390, hy3390, hm⟩ := gx_bind hm
        refine Z_val (elemP p3357 (s3378.toNat * 1)) (by kernel_rfl) (fun w_ M_ => (E_index (E := Gx.encI) _ _ _ x3355.length c3358 .i64 s3378 1 (y := y3390) rfl (by kernel_rfl) (by kernel_rfl) (by kernel_rfl) (h3359.mem0 M_) rfl hy3390)) ?_
        refine Z_val (.int .i64 y3390) (by kernel_rfl) (fun w_ M_ => (E_loadE (E := Gx.encI) _ _ false 1 s3378 0 (s3378.toNat * 1) y3390 (.int .i64 y3390) rfl (by kernel_rfl) (by kernel_rfl) (by kernel_rfl) (h3359.mem0 M_) hy3390 rfl)) ?_
        refine Z_runs [.slice p3362 x3360.length c3363, .int .i64 s3378] [(0, .slice p3357 x3355.length c3358), (1, .slice p3362 x3360.length c3363), (5, .int .i64 s3378), (20, .int .i64 y3390), (21, .slice p3362 x3360.length c3363), (22, .int .i64 s3378)] (fun w_ => by kernel_rfl) (by kernel_rfl) ?_
        obtain ⟨y3391, hy3391, hm⟩ := gx_bind hm
        refine Z_val (elemP p3362 (s3378.toNat * 1)) (by kernel_rfl) (fun w_ M_ => (E_index (E := Gx.encI) _ _ _ x3360.length c3363 .i64 s3378 1 (y := y3391) rfl (by kernel_rfl) (by kernel_rfl) (by kernel_rfl) (h3364.mem0 M_) rfl hy3391)) ?_
        refine Z_val (.int .i64 y3391) (by kernel_rfl) (fun w_ M_ => (E_loadE (E := Gx.encI) _ _ false 1 s3378 0 (s3378.toNat * 1) y3391 (.int .i64 y3391) rfl (by kernel_rfl) (by kernel_rfl) (by kernel_rfl) (h3364.mem0 M_) hy3391 rfl)) ?_
        refine Z_runs [.bool (y3390 != y3391)] [(0, .slice p3357 x3355.length c3358), (1, .slice p3362 x3360.length c3363), (5, .int .i64 s3378), (25, .bool (y3390 != y3391))] (fun w_ => by kernel_rfl) (by kernel_rfl) ?_
        refine Z_end fun w3392 M3393 => ?_
        refine N_then ?_
        rcases gx_bif hm with ⟨hc3394, hm⟩ | ⟨hc3394, hm⟩
        · refine G_cond_t (b := (y3390 != y3391)) hc3394 (by kernel_rfl) ?_
          refine G_seq ?_
          refine G_region ?_
          refine W_run 1 [(4, .bool false)] w3392 (by kernel_rfl) ?_
          refine W_nil ?_
          refine N_then ?_
          refine G_ret ?_
          refine N_block_ret ?_
          refine N_then_ret ?_
          refine N_then_ret ?_
          obtain rfl := Option.some.inj hm
          obtain rfl := hout3380 _ rfl
          have hm := hmo3387; simp only [Sum.elim_inr] at hm
          refine N_block_ret ?_
          refine N_meet_ret ?_
          refine N_then_ret ?_
          obtain rfl := Option.some.inj hm
          refine N_ret [.bool false] (RVs_cons (RV_tmp (by kernel_rfl)) RVs_nil) ?_
          exact ⟨rfl, M3393.pick [] (by kernel_rfl)⟩
        · refine G_cond_f (b := (y3390 != y3391)) hc3394 (by kernel_rfl) ?_
          refine G_skip ?_
          refine N_block ?_
          refine N_then ?_
          refine G_region ?_
          refine W_run 3 [(0, .slice p3357 x3355.length c3358), (1, .slice p3362 x3360.length c3363), (5, .int .i64 (w64 (s3378 + 1)))] w3392 (by kernel_rfl) ?_
          refine W_nil ?_
          obtain rfl := Option.some.inj hm
          exact N_loop fun a ha => ⟨_, rfl, M3393.pick [] (by kernel_rfl), ha.sub (by kernel_rfl)⟩
      · refine G_cond_f (b := (decide (s3378 < (x3355.length : Int)))) hc3389 (by kernel_rfl) ?_
        refine G_exit ?_
        refine N_then_exit ?_
        refine N_then_exit ?_
        refine N_block_eq ?_
        obtain rfl := Option.some.inj hm
        obtain rfl := hout3380 _ rfl
        exact N_meet fun a ha => ⟨_, rfl, M3383.pick [] (by kernel_rfl), ha.sub (by kernel_rfl)⟩
    · intro a3395 w3396 ⟨o3388, hout_, M3397, hS3398⟩
      refine N_use hS3398 ?_
      subst hout_
      have hm := hmo3387; simp only [Sum.elim_inl] at hm
      refine N_then ?_
      refine G_seq ?_
      refine G_region ?_
      refine W_run 1 [(4, .bool true)] w3396 (by kernel_rfl) ?_
      refine W_nil ?_
      refine N_then ?_
      refine G_ret ?_
      obtain rfl := Option.some.inj hm
      refine N_ret [.bool true] (RVs_cons (RV_tmp (by kernel_rfl)) RVs_nil) ?_
      exact ⟨rfl, M3397.pick [] (by kernel_rfl)⟩
theorem c_l_eqEvent (w : World) (x3445 : Event) (x3446 : Event) {r : Bool} (hm : M.l_eqEvent x3445 x3446 = some r) :
    Calls Try.prog 57 #[.agg #[.int .i64 x3445.Tick, .int .i64 x3445.Guest, .string x3445.Kind, .int .i64 x3445.Value], .agg #[.int .i64 x3446.Tick, .int .i64 x3446.Guest, .string x3446.Kind, .int .i64 x3446.Value]] w fun e w' => e = .returned (.bool r) ∧ Mem [] w w' [] := by
  unfold M.l_eqEvent at hm
  refine C_enter Try.func57 rfl (by kernel_rfl) ?_
  have M0 := Mem.refl [] w
  refine G_seq ?_
  refine G_region ?_
  refine W_new (fun b => .pointer (some ⟨b, 0, none⟩)) (.cells ⟨[.int .i64 x3445.Tick, .int .i64 x3445.Guest, .string x3445.Kind, .int .i64 x3445.Value]⟩ 26 (0, 0)) M0 rfl (by kernel_rfl) (by kernel_rfl) ?_
  intro b3448 w3449 M3450
  refine W_new (fun b => .pointer (some ⟨b, 0, none⟩)) (.cells ⟨[.int .i64 x3446.Tick, .int .i64 x3446.Guest, .string x3446.Kind, .int .i64 x3446.Value]⟩ 26 (0, 0)) M3450 rfl (by kernel_rfl) (by kernel_rfl) ?_
  intro b3452 w3453 M3454
  refine W_run 1 [(2, .pointer (some ⟨b3448, 0, none⟩)), (3, .pointer (some ⟨b3452, 0, none⟩))] w3453 (by kernel_rfl) ?_
  refine W_nil ?_
  refine N_then ?_
  refine G_seq ?_
  refine G_seq ?_
  refine G_region ?_
  refine W_run 1 [(2, .pointer (some ⟨b3448, 0, none⟩)), (3, .pointer (some ⟨b3452, 0, none⟩)), (5, .pointer (some ⟨b3448, 0, none⟩))] w3453 (by kernel_rfl) ?_
  refine W_val (.int .i64 x3445.Tick) w3453 (by kernel_rfl) (E_load (e := 26) (fr := (0, 0)) _ _ false 1 b3448 0 [.int .i64 x3445.Tick, .int .i64 x3445.Guest, .string x3445.Kind, .int .i64 x3445.Value] (.int .i64 x3445.Tick) rfl (by kernel_rfl) (by kernel_rfl) (by kernel_rfl) (M3454.blk 0 (b := b3448) (o := .cells ⟨[.int .i64 x3445.Tick, .int .i64 x3445.Guest, .string x3445.Kind, .int .i64 x3445.Value]⟩ 26 (0, 0)) (by kernel_rfl))) ?_
  refine W_run 1 [(2, .pointer (some ⟨b3448, 0, none⟩)), (3, .pointer (some ⟨b3452, 0, none⟩)), (6, .int .i64 x3445.Tick), (7, .pointer (some ⟨b3452, 0, none⟩))] w3453 (by kernel_rfl) ?_
  refine W_val (.int .i64 x3446.Tick) w3453 (by kernel_rfl) (E_load (e := 26) (fr := (0, 0)) _ _ false 1 b3452 0 [.int .i64 x3446.Tick, .int .i64 x3446.Guest, .string x3446.Kind, .int .i64 x3446.Value] (.int .i64 x3446.Tick) rfl (by kernel_rfl) (by kernel_rfl) (by kernel_rfl) (M3454.blk 1 (b := b3452) (o := .cells ⟨[.int .i64 x3446.Tick, .int .i64 x3446.Guest, .string x3446.Kind, .int .i64 x3446.Value]⟩ 26 (0, 0)) (by kernel_rfl))) ?_
  refine W_run 1 [(2, .pointer (some ⟨b3448, 0, none⟩)), (3, .pointer (some ⟨b3452, 0, none⟩)), (9, .bool (x3445.Tick != x3446.Tick))] w3453 (by kernel_rfl) ?_
  refine W_nil ?_
  refine N_then ?_
  rcases gx_bif hm with ⟨hc3455, hm⟩ | ⟨hc3455, hm⟩
  · refine G_cond_t (b := (x3445.Tick != x3446.Tick)) hc3455 (by kernel_rfl) ?_
    refine G_seq ?_
    refine G_region ?_
    refine W_run 1 [(4, .bool false)] w3453 (by kernel_rfl) ?_
    refine W_nil ?_
    refine N_then ?_
    refine G_ret ?_
    refine N_then_ret ?_
    obtain rfl := Option.some.inj hm
    refine N_ret [.bool false] (RVs_cons (RV_tmp (by kernel_rfl)) RVs_nil) ?_
    exact ⟨rfl, M3454.pick [] (by kernel_rfl)⟩
  · refine G_cond_f (b := (x3445.Tick != x3446.Tick)) hc3455 (by kernel_rfl) ?_
    refine G_skip ?_
    refine N_then ?_
    refine G_seq ?_
    refine G_seq ?_
    refine G_region ?_
    refine W_run 1 [(2, .pointer (some ⟨b3448, 0, none⟩)), (3, .pointer (some ⟨b3452, 0, none⟩)), (10, .pointer (some ⟨b3448, 1, none⟩))] w3453 (by kernel_rfl) ?_
    refine W_val (.int .i64 x3445.Guest) w3453 (by kernel_rfl) (E_load (e := 26) (fr := (0, 0)) _ _ false 1 b3448 1 [.int .i64 x3445.Tick, .int .i64 x3445.Guest, .string x3445.Kind, .int .i64 x3445.Value] (.int .i64 x3445.Guest) rfl (by kernel_rfl) (by kernel_rfl) (by kernel_rfl) (M3454.blk 0 (b := b3448) (o := .cells ⟨[.int .i64 x3445.Tick, .int .i64 x3445.Guest, .string x3445.Kind, .int .i64 x3445.Value]⟩ 26 (0, 0)) (by kernel_rfl))) ?_
    refine W_run 1 [(2, .pointer (some ⟨b3448, 0, none⟩)), (3, .pointer (some ⟨b3452, 0, none⟩)), (11, .int .i64 x3445.Guest), (12, .pointer (some ⟨b3452, 1, none⟩))] w3453 (by kernel_rfl) ?_
    refine W_val (.int .i64 x3446.Guest) w3453 (by kernel_rfl) (E_load (e := 26) (fr := (0, 0)) _ _ false 1 b3452 1 [.int .i64 x3446.Tick, .int .i64 x3446.Guest, .string x3446.Kind, .int .i64 x3446.Value] (.int .i64 x3446.Guest) rfl (by kernel_rfl) (by kernel_rfl) (by kernel_rfl) (M3454.blk 1 (b := b3452) (o := .cells ⟨[.int .i64 x3446.Tick, .int .i64 x3446.Guest, .string x3446.Kind, .int .i64 x3446.Value]⟩ 26 (0, 0)) (by kernel_rfl))) ?_
    refine W_run 1 [(2, .pointer (some ⟨b3448, 0, none⟩)), (3, .pointer (some ⟨b3452, 0, none⟩)), (14, .bool (x3445.Guest != x3446.Guest))] w3453 (by kernel_rfl) ?_
    refine W_nil ?_
    refine N_then ?_
    rcases gx_bif hm with ⟨hc3456, hm⟩ | ⟨hc3456, hm⟩
    · refine G_cond_t (b := (x3445.Guest != x3446.Guest)) hc3456 (by kernel_rfl) ?_
      refine G_seq ?_
      refine G_region ?_
      refine W_run 1 [(4, .bool false)] w3453 (by kernel_rfl) ?_
      refine W_nil ?_
      refine N_then ?_
      refine G_ret ?_
      refine N_then_ret ?_
      obtain rfl := Option.some.inj hm
      refine N_ret [.bool false] (RVs_cons (RV_tmp (by kernel_rfl)) RVs_nil) ?_
      exact ⟨rfl, M3454.pick [] (by kernel_rfl)⟩
    · refine G_cond_f (b := (x3445.Guest != x3446.Guest)) hc3456 (by kernel_rfl) ?_
      refine G_skip ?_
      refine N_then ?_
      refine G_seq ?_
      refine G_seq ?_
      refine G_region ?_
      refine W_run 1 [(2, .pointer (some ⟨b3448, 0, none⟩)), (3, .pointer (some ⟨b3452, 0, none⟩)), (15, .pointer (some ⟨b3448, 2, none⟩))] w3453 (by kernel_rfl) ?_
      refine W_val (.string x3445.Kind) w3453 (by kernel_rfl) (E_load (e := 26) (fr := (0, 0)) _ _ false 1 b3448 2 [.int .i64 x3445.Tick, .int .i64 x3445.Guest, .string x3445.Kind, .int .i64 x3445.Value] (.string x3445.Kind) rfl (by kernel_rfl) (by kernel_rfl) (by kernel_rfl) (M3454.blk 0 (b := b3448) (o := .cells ⟨[.int .i64 x3445.Tick, .int .i64 x3445.Guest, .string x3445.Kind, .int .i64 x3445.Value]⟩ 26 (0, 0)) (by kernel_rfl))) ?_
      refine W_run 1 [(2, .pointer (some ⟨b3448, 0, none⟩)), (3, .pointer (some ⟨b3452, 0, none⟩)), (16, .string x3445.Kind), (17, .pointer (some ⟨b3452, 2, none⟩))] w3453 (by kernel_rfl) ?_
      refine W_val (.string x3446.Kind) w3453 (by kernel_rfl) (E_load (e := 26) (fr := (0, 0)) _ _ false 1 b3452 2 [.int .i64 x3446.Tick, .int .i64 x3446.Guest, .string x3446.Kind, .int .i64 x3446.Value] (.string x3446.Kind) rfl (by kernel_rfl) (by kernel_rfl) (by kernel_rfl) (M3454.blk 1 (b := b3452) (o := .cells ⟨[.int .i64 x3446.Tick, .int .i64 x3446.Guest, .string x3446.Kind, .int .i64 x3446.Value]⟩ 26 (0, 0)) (by kernel_rfl))) ?_
      refine W_run 1 [(2, .pointer (some ⟨b3448, 0, none⟩)), (3, .pointer (some ⟨b3452, 0, none⟩)), (19, .bool (!(x3445.Kind.toList == x3446.Kind.toList)))] w3453 (by kernel_rfl) ?_
      refine W_nil ?_
      refine N_then ?_
      rcases gx_bif hm with ⟨hc3457, hm⟩ | ⟨hc3457, hm⟩
      · refine G_cond_t (b := (!(x3445.Kind.toList == x3446.Kind.toList))) hc3457 (by kernel_rfl) ?_
        refine G_seq ?_
        refine G_region ?_
        refine W_run 1 [(4, .bool false)] w3453 (by kernel_rfl) ?_
        refine W_nil ?_
        refine N_then ?_
        refine G_ret ?_
        refine N_then_ret ?_
        obtain rfl := Option.some.inj hm
        refine N_ret [.bool false] (RVs_cons (RV_tmp (by kernel_rfl)) RVs_nil) ?_
        exact ⟨rfl, M3454.pick [] (by kernel_rfl)⟩
      · refine G_cond_f (b := (!(x3445.Kind.toList == x3446.Kind.toList))) hc3457 (by kernel_rfl) ?_
        refine G_skip ?_
        refine N_then ?_
        refine G_seq ?_
        refine G_seq ?_
        refine G_region ?_
        refine W_run 1 [(3, .pointer (some ⟨b3452, 0, none⟩)), (20, .pointer (some ⟨b3448, 3, none⟩))] w3453 (by kernel_rfl) ?_
        refine W_val (.int .i64 x3445.Value) w3453 (by kernel_rfl) (E_load (e := 26) (fr := (0, 0)) _ _ false 1 b3448 3 [.int .i64 x3445.Tick, .int .i64 x3445.Guest, .string x3445.Kind, .int .i64 x3445.Value] (.int .i64 x3445.Value) rfl (by kernel_rfl) (by kernel_rfl) (by kernel_rfl) (M3454.blk 0 (b := b3448) (o := .cells ⟨[.int .i64 x3445.Tick, .int .i64 x3445.Guest, .string x3445.Kind, .int .i64 x3445.Value]⟩ 26 (0, 0)) (by kernel_rfl))) ?_
        refine W_run 1 [(21, .int .i64 x3445.Value), (22, .pointer (some ⟨b3452, 3, none⟩))] w3453 (by kernel_rfl) ?_
        refine W_val (.int .i64 x3446.Value) w3453 (by kernel_rfl) (E_load (e := 26) (fr := (0, 0)) _ _ false 1 b3452 3 [.int .i64 x3446.Tick, .int .i64 x3446.Guest, .string x3446.Kind, .int .i64 x3446.Value] (.int .i64 x3446.Value) rfl (by kernel_rfl) (by kernel_rfl) (by kernel_rfl) (M3454.blk 1 (b := b3452) (o := .cells ⟨[.int .i64 x3446.Tick, .int .i64 x3446.Guest, .string x3446.Kind, .int .i64 x3446.Value]⟩ 26 (0, 0)) (by kernel_rfl))) ?_
        refine W_run 1 [(24, .bool (x3445.Value != x3446.Value))] w3453 (by kernel_rfl) ?_
        refine W_nil ?_
        refine N_then ?_
        rcases gx_bif hm with ⟨hc3458, hm⟩ | ⟨hc3458, hm⟩
        · refine G_cond_t (b := (x3445.Value != x3446.Value)) hc3458 (by kernel_rfl) ?_
          refine G_seq ?_
          refine G_region ?_
          refine W_run 1 [(4, .bool false)] w3453 (by kernel_rfl) ?_
          refine W_nil ?_
          refine N_then ?_
          refine G_ret ?_
          refine N_then_ret ?_
          obtain rfl := Option.some.inj hm
          refine N_ret [.bool false] (RVs_cons (RV_tmp (by kernel_rfl)) RVs_nil) ?_
          exact ⟨rfl, M3454.pick [] (by kernel_rfl)⟩
        · refine G_cond_f (b := (x3445.Value != x3446.Value)) hc3458 (by kernel_rfl) ?_
          refine G_skip ?_
          refine N_then ?_
          refine G_seq ?_
          refine G_region ?_
          refine W_run 1 [(4, .bool true)] w3453 (by kernel_rfl) ?_
          refine W_nil ?_
          refine N_then ?_
          refine G_ret ?_
          obtain rfl := Option.some.inj hm
          refine N_ret [.bool true] (RVs_cons (RV_tmp (by kernel_rfl)) RVs_nil) ?_
          exact ⟨rfl, M3454.pick [] (by kernel_rfl)⟩
theorem c_l_eqEventS (w : World) (x3431 : List Event) (p3433 : Option Addr) (c3434 : Nat) (h3435 : rdS encEvent w x3431 p3433 c3434) (x3436 : List Event) (p3438 : Option Addr) (c3439 : Nat) (h3440 : rdS encEvent w x3436 p3438 c3439) {r : Bool} (hm : M.l_eqEventS x3431 x3436 = some r) :
    Calls Try.prog 21 #[.slice p3433 x3431.length c3434, .slice p3438 x3436.length c3439] w fun e w' => e = .returned (.bool r) ∧ Mem [] w w' [] := by
  unfold M.l_eqEventS at hm
  refine C_enter Try.func21 rfl (by kernel_rfl) ?_
  have M0 := Mem.refl [] w
  refine G_seq ?_
  refine G_region ?_
  refine W_run 1 [(0, .slice p3433 x3431.length c3434), (1, .slice p3438 x3436.length c3439)] w (by kernel_rfl) ?_
  refine W_nil ?_
  refine N_then ?_
  refine G_seq ?_
  refine G_seq ?_
  refine G_region ?_
  refine W_run 5 [(0, .slice p3433 x3431.length c3434), (1, .slice p3438 x3436.length c3439), (10, .bool ((x3431.length : Int) != (x3436.length : Int)))] w (by kernel_rfl) ?_
  refine W_nil ?_
  refine N_then ?_
  rcases gx_bif hm with ⟨hc3441, hm⟩ | ⟨hc3441, hm⟩
  · refine G_cond_t (b := ((x3431.length : Int) != (x3436.length : Int))) hc3441 (by kernel_rfl) ?_
    refine G_seq ?_
    refine G_region ?_
    refine W_run 1 [(4, .bool false)] w (by kernel_rfl) ?_
    refine W_nil ?_
    refine N_then ?_
    refine G_ret ?_
    refine N_then_ret ?_
    obtain rfl := Option.some.inj hm
    refine N_ret [.bool false] (RVs_cons (RV_tmp (by kernel_rfl)) RVs_nil) ?_
    exact ⟨rfl, M0.pick [] (by kernel_rfl)⟩
  · refine G_cond_f (b := ((x3431.length : Int) != (x3436.length : Int))) hc3441 (by kernel_rfl) ?_
    refine G_skip ?_
    refine N_then ?_
    refine G_seq ?_
    refine G_seq ?_
    refine G_region ?_
    refine W_run 1 [(0, .slice p3433 x3431.length c3434), (1, .slice p3438 x3436.length c3439), (5, .int .i64 0)] w (by kernel_rfl) ?_
    refine W_nil ?_
    refine N_then ?_
    obtain ⟨out3483, hw3484, hmo3485⟩ := gx_bind hm
    refine G_meet (fun a w' => ∃ (o3486 : Unit), out3483 = .inl o3486 ∧ Mem [] w w' [] ∧ Sat Try.f21.ntmps [] a) ?_ ?_
    · refine G_block ?_
      refine G_while (σ := Int) (ρ := (Unit) ⊕ (Bool)) (fun s3476 a w' => Mem [] w w' [] ∧ Sat Try.f21.ntmps [(0, .slice p3433 x3431.length c3434), (1, .slice p3438 x3436.length c3439), (5, .int .i64 s3476)] a) hw3484 (fun a ha => ⟨M0.pick [] (by kernel_rfl), ha.sub (by kernel_rfl)⟩) ?_
      clear hm
      intro s3476 x3477 hm hout3478 a3479 w3480 ⟨M3481, hS3482⟩
      refine G_use hS3482 ?_
      refine G_seq ?_
      refine G_seq ?_
      refine G_region ?_
      refine W_run 4 [(0, .slice p3433 x3431.length c3434), (1, .slice p3438 x3436.length c3439), (5, .int .i64 s3476), (14, .bool (decide (s3476 < (x3431.length : Int))))] w3480 (by kernel_rfl) ?_
      refine W_nil ?_
      refine N_then ?_
      rcases gx_bif hm with ⟨hc3487, hm⟩ | ⟨hc3487, hm⟩
      · refine G_cond_t (b := (decide (s3476 < (x3431.length : Int)))) hc3487 (by kernel_rfl) ?_
        refine G_skip ?_
        refine N_then ?_
        refine G_seq ?_
        refine G_block ?_
        refine G_seq ?_
        refine G_quiet (by kernel_rfl) (by kernel_rfl) M3481 ?_
        refine Z_runs [.slice p3433 x3431.length c3434, .int .i64 s3476] [(0, .slice p3433 x3431.length c3434), (1, .slice p3438 x3436.length c3439), (5, .int .i64 s3476), (17, .slice p3433 x3431.length c3434), (18, .int .i64 s3476)] (fun w_ => by kernel_rfl) (by kernel_rfl) ?_
        obtain ⟨y3488, hy3488, hm⟩ := gx_bind hm
        refine Z_val (elemP p3433 (s3476.toNat * 4)) (by kernel_rfl) (fun w_ M_ => (E_index (E := encEvent) _ _ _ x3431.length c3434 .i64 s3476 4 (y := y3488) rfl (by kernel_rfl) (by kernel_rfl) (by kernel_rfl) (h3435.mem0 M_) rfl hy3488)) ?_
        refine Z_val (.agg #[.int .i64 y3488.Tick, .int .i64 y3488.Guest, .string y3488.Kind, .int .i64 y3488.Value]) (by kernel_rfl) (fun w_ M_ => (E_loadE (E := encEvent) _ _ true 4 s3476 0 (s3476.toNat * 4) y3488 (.agg #[.int .i64 y3488.Tick, .int .i64 y3488.Guest, .string y3488.Kind, .int .i64 y3488.Value]) rfl (by kernel_rfl) (by kernel_rfl) (by kernel_rfl) (h3435.mem0 M_) hy3488 rfl)) ?_
        refine Z_runs [.slice p3438 x3436.length c3439, .int .i64 s3476] [(0, .slice p3433 x3431.length c3434), (1, .slice p3438 x3436.length c3439), (5, .int .i64 s3476), (20, .agg #[.int .i64 y3488.Tick, .int .i64 y3488.Guest, .string y3488.Kind, .int .i64 y3488.Value]), (21, .slice p3438 x3436.length c3439), (22, .int .i64 s3476)] (fun w_ => by kernel_rfl) (by kernel_rfl) ?_
        obtain ⟨y3489, hy3489, hm⟩ := gx_bind hm
        refine Z_val (elemP p3438 (s3476.toNat * 4)) (by kernel_rfl) (fun w_ M_ => (E_index (E := encEvent) _ _ _ x3436.length c3439 .i64 s3476 4 (y := y3489) rfl (by kernel_rfl) (by kernel_rfl) (by kernel_rfl) (h3440.mem0 M_) rfl hy3489)) ?_
        refine Z_val (.agg #[.int .i64 y3489.Tick, .int .i64 y3489.Guest, .string y3489.Kind, .int .i64 y3489.Value]) (by kernel_rfl) (fun w_ M_ => (E_loadE (E := encEvent) _ _ true 4 s3476 0 (s3476.toNat * 4) y3489 (.agg #[.int .i64 y3489.Tick, .int .i64 y3489.Guest, .string y3489.Kind, .int .i64 y3489.Value]) rfl (by kernel_rfl) (by kernel_rfl) (by kernel_rfl) (h3440.mem0 M_) hy3489 rfl)) ?_
        obtain ⟨r3490, hr3490, hm⟩ := gx_bind hm
        refine Z_call 57 #[.agg #[.int .i64 y3488.Tick, .int .i64 y3488.Guest, .string y3488.Kind, .int .i64 y3488.Value], .agg #[.int .i64 y3489.Tick, .int .i64 y3489.Guest, .string y3489.Kind, .int .i64 y3489.Value]] (.bool r3490) (by kernel_rfl) (fun w_ => by kernel_rfl) (fun w_ M_ => (c_l_eqEvent w_ y3488 y3489 hr3490).mono fun e w2_ h_ => ⟨h_.1, M_.call0 h_.2⟩) ?_
        refine Z_runs [.bool (!r3490)] [(0, .slice p3433 x3431.length c3434), (1, .slice p3438 x3436.length c3439), (5, .int .i64 s3476), (26, .bool (!r3490))] (fun w_ => by kernel_rfl) (by kernel_rfl) ?_
        refine Z_end fun w3494 M3495 => ?_
        refine N_then ?_
        rcases gx_bif hm with ⟨hc3496, hm⟩ | ⟨hc3496, hm⟩
        · refine G_cond_t (b := (!r3490)) hc3496 (by kernel_rfl) ?_
          refine G_seq ?_
          refine G_region ?_
          refine W_run 1 [(4, .bool false)] w3494 (by kernel_rfl) ?_
          refine W_nil ?_
          refine N_then ?_
          refine G_ret ?_
          refine N_block_ret ?_
          refine N_then_ret ?_
          refine N_then_ret ?_
          obtain rfl := Option.some.inj hm
          obtain rfl := hout3478 _ rfl
          have hm := hmo3485; simp only [Sum.elim_inr] at hm
          refine N_block_ret ?_
          refine N_meet_ret ?_
          refine N_then_ret ?_
          obtain rfl := Option.some.inj hm
          refine N_ret [.bool false] (RVs_cons (RV_tmp (by kernel_rfl)) RVs_nil) ?_
          exact ⟨rfl, M3495.pick [] (by kernel_rfl)⟩
        · refine G_cond_f (b := (!r3490)) hc3496 (by kernel_rfl) ?_
          refine G_skip ?_
          refine N_block ?_
          refine N_then ?_
          refine G_region ?_
          refine W_run 3 [(0, .slice p3433 x3431.length c3434), (1, .slice p3438 x3436.length c3439), (5, .int .i64 (w64 (s3476 + 1)))] w3494 (by kernel_rfl) ?_
          refine W_nil ?_
          obtain rfl := Option.some.inj hm
          exact N_loop fun a ha => ⟨_, rfl, M3495.pick [] (by kernel_rfl), ha.sub (by kernel_rfl)⟩
      · refine G_cond_f (b := (decide (s3476 < (x3431.length : Int)))) hc3487 (by kernel_rfl) ?_
        refine G_exit ?_
        refine N_then_exit ?_
        refine N_then_exit ?_
        refine N_block_eq ?_
        obtain rfl := Option.some.inj hm
        obtain rfl := hout3478 _ rfl
        exact N_meet fun a ha => ⟨_, rfl, M3481.pick [] (by kernel_rfl), ha.sub (by kernel_rfl)⟩
    · intro a3497 w3498 ⟨o3486, hout_, M3499, hS3500⟩
      refine N_use hS3500 ?_
      subst hout_
      have hm := hmo3485; simp only [Sum.elim_inl] at hm
      refine N_then ?_
      refine G_seq ?_
      refine G_region ?_
      refine W_run 1 [(4, .bool true)] w3498 (by kernel_rfl) ?_
      refine W_nil ?_
      refine N_then ?_
      refine G_ret ?_
      obtain rfl := Option.some.inj hm
      refine N_ret [.bool true] (RVs_cons (RV_tmp (by kernel_rfl)) RVs_nil) ?_
      exact ⟨rfl, M3499.pick [] (by kernel_rfl)⟩
theorem c_l_markText (w : World) (x3525 : Int) {r : ByteArray} (hm : M.l_markText x3525 = some r) :
    Calls Try.prog 64 #[.int .i64 x3525] w fun e w' => e = .returned (.string r) ∧ Mem [] w w' [] := by
  unfold M.l_markText at hm
  refine C_enter Try.func64 rfl (by kernel_rfl) ?_
  have M0 := Mem.refl [] w
  refine G_seq ?_
  refine G_region ?_
  refine W_run 1 [(0, .int .i64 x3525)] w (by kernel_rfl) ?_
  refine W_nil ?_
  refine N_then ?_
  refine G_seq ?_
  refine G_seq ?_
  refine G_region ?_
  refine W_run 2 [(0, .int .i64 x3525), (5, .bool (decide (x3525 ≤ 0)))] w (by kernel_rfl) ?_
  refine W_nil ?_
  refine N_then ?_
  rcases gx_bif hm with ⟨hc3526, hm⟩ | ⟨hc3526, hm⟩
  · refine G_cond_t (b := (decide (x3525 ≤ 0))) hc3526 (by kernel_rfl) ?_
    refine G_seq ?_
    refine G_region ?_
    refine W_run 1 [(2, .string (ByteArray.mk #[109, 48]))] w (by kernel_rfl) ?_
    refine W_nil ?_
    refine N_then ?_
    refine G_ret ?_
    refine N_then_ret ?_
    obtain rfl := Option.some.inj hm
    refine N_ret [.string (ByteArray.mk #[109, 48])] (RVs_cons (RV_tmp (by kernel_rfl)) RVs_nil) ?_
    exact ⟨rfl, M0.pick [] (by kernel_rfl)⟩
  · refine G_cond_f (b := (decide (x3525 ≤ 0))) hc3526 (by kernel_rfl) ?_
    refine G_skip ?_
    refine N_then ?_
    refine G_seq ?_
    refine G_region ?_
    refine W_run 1 [(0, .int .i64 x3525), (3, .string (ByteArray.mk #[]))] w (by kernel_rfl) ?_
    refine W_nil ?_
    refine N_then ?_
    refine G_seq ?_
    obtain ⟨out3552, hw3553, hmo3554⟩ := gx_bind hm
    refine G_meet (fun a w' => Mem [] w w' [] ∧ Sat Try.f64.ntmps [(3, .string out3552)] a) ?_ ?_
    · refine G_block ?_
      refine G_while (σ := Int × ByteArray) (ρ := ByteArray) (fun s3545 a w' => Mem [] w w' [] ∧ Sat Try.f64.ntmps [(0, .int .i64 s3545.1), (3, .string s3545.2)] a) hw3553 (fun a ha => ⟨M0.pick [] (by kernel_rfl), ha.sub (by kernel_rfl)⟩) ?_
      clear hm
      intro s3545 x3546 hm hout3547 a3548 w3549 ⟨M3550, hS3551⟩
      refine G_use hS3551 ?_
      refine G_seq ?_
      refine G_seq ?_
      refine G_region ?_
      refine W_run 2 [(0, .int .i64 s3545.1), (3, .string s3545.2), (7, .bool (decide (s3545.1 > 0)))] w3549 (by kernel_rfl) ?_
      refine W_nil ?_
      refine N_then ?_
      rcases gx_bif hm with ⟨hc3556, hm⟩ | ⟨hc3556, hm⟩
      · refine G_cond_t (b := (decide (s3545.1 > 0))) hc3556 (by kernel_rfl) ?_
        refine G_skip ?_
        refine N_then ?_
        refine G_block ?_
        refine G_seq ?_
        refine G_region ?_
        refine W_run 4 [(0, .int .i64 s3545.1), (3, .string s3545.2), (11, .int .u8 (IntKind.u8.wrap (w64 (48 + (s3545.1.tmod 10)))))] w3549 (by kernel_rfl) ?_
        refine W_lit (E := Gx.encU8) [IntKind.u8.wrap (w64 (48 + (s3545.1.tmod 10)))] 1 [.int .u8 (IntKind.u8.wrap (w64 (48 + (s3545.1.tmod 10))))] 5 M3550 (by kernel_rfl) (by kernel_rfl) (by kernel_rfl) (by kernel_rfl) (by kernel_rfl) ?_
        intro p3557 c3558 sg3559 w3560 ho3561 M3562
        refine W_val (.string (gxStr [IntKind.u8.wrap (w64 (48 + (s3545.1.tmod 10)))])) w3560 (by kernel_rfl) (E_bytesStr _ _ 5 _ [IntKind.u8.wrap (w64 (48 + (s3545.1.tmod 10)))] rfl (by kernel_rfl) (by kernel_rfl) (by kernel_rfl) (by kernel_rfl) (ho3561.rd M3562 0 (by kernel_rfl))) ?_
        refine W_run 1 [(0, .int .i64 s3545.1), (3, .string s3545.2), (13, .string (gxStr [IntKind.u8.wrap (w64 (48 + (s3545.1.tmod 10)))])), (14, .string s3545.2)] w3560 (by kernel_rfl) ?_
        obtain ⟨q3564, hq3564, hm⟩ := gx_bind hm
        refine W_val (.string q3564) w3560 (by kernel_rfl) (E_strCat _ _ _ _ (gxStr [IntKind.u8.wrap (w64 (48 + (s3545.1.tmod 10)))]) s3545.2 q3564 rfl (by kernel_rfl) (by kernel_rfl) hq3564) ?_
        refine W_run 1 [(0, .int .i64 s3545.1), (3, .string q3564)] w3560 (by kernel_rfl) ?_
        refine W_nil ?_
        refine N_then ?_
        refine G_region ?_
        refine W_run 3 [(0, .int .i64 (w64 (s3545.1.tdiv 10))), (3, .string q3564)] w3560 (by kernel_rfl) ?_
        refine W_nil ?_
        refine N_block ?_
        obtain rfl := Option.some.inj hm
        exact N_loop fun a ha => ⟨_, rfl, M3562.pick [] (by kernel_rfl), ha.sub (by kernel_rfl)⟩
      · refine G_cond_f (b := (decide (s3545.1 > 0))) hc3556 (by kernel_rfl) ?_
        refine G_exit ?_
        refine N_then_exit ?_
        refine N_then_exit ?_
        refine N_block_eq ?_
        obtain rfl := Option.some.inj hm
        obtain rfl := hout3547 _ rfl
        exact N_meet fun a ha => ⟨M3550.pick [] (by kernel_rfl), ha.sub (by kernel_rfl)⟩
    · intro a3565 w3566 ⟨M3567, hS3568⟩
      refine N_use hS3568 ?_
      have hm := hmo3554
      refine N_then ?_
      refine G_seq ?_
      refine G_region ?_
      refine W_run 1 [(18, .string out3552)] w3566 (by kernel_rfl) ?_
      obtain ⟨q3569, hq3569, hm⟩ := gx_bind hm
      refine W_val (.string q3569) w3566 (by kernel_rfl) (E_strCat _ _ _ _ (ByteArray.mk #[109]) out3552 q3569 rfl (by kernel_rfl) (by kernel_rfl) hq3569) ?_
      refine W_run 1 [(2, .string q3569)] w3566 (by kernel_rfl) ?_
      refine W_nil ?_
      refine N_then ?_
      refine G_ret ?_
      obtain rfl := Option.some.inj hm
      refine N_ret [.string q3569] (RVs_cons (RV_tmp (by kernel_rfl)) RVs_nil) ?_
      exact ⟨rfl, M3567.pick [] (by kernel_rfl)⟩
end Go.Proofs.Ytfcebglkdfadcaa
