/- The walks, printed by program: whenever the model gives r, the call returns r. Part 1. -/
import Derived.Test.YtlfligjpmodefaaSM
import Derived.Test.YtlfligjpmodefaaProg
import Derived.Test.YtlfligjpmodefaaSh
set_option linter.unusedVariables false
set_option maxRecDepth 100000
set_option maxHeartbeats 4000000
namespace Go.Proofs.Ytlfligjpmodefaa
open Go.Gx
theorem c_l_szIntS (w : World) (x39 : List Int) (p41 : Option Addr) (c42 : Nat) (h43 : rdS Gx.encI w x39 p41 c42) (x44 : Int) {r : Int} (hm : M.l_szIntS x39 x44 = some r) :
    Calls Try.prog 78 #[.slice p41 x39.length c42, .int .i64 x44] w fun e w' => e = .returned (.int .i64 r) ∧ Mem [] w w' [] := by
  unfold M.l_szIntS at hm
  refine C_enter Try.func78 rfl (by kernel_rfl) ?_
  have M0 := Mem.refl [] w
  refine G_seq ?_
  refine G_region ?_
  refine W_run 1 [(0, .slice p41 x39.length c42), (1, .int .i64 x44)] w (by kernel_rfl) ?_
  refine W_nil ?_
  refine N_then ?_
  refine G_seq ?_
  refine G_region ?_
  refine W_run 5 [(1, .int .i64 (w64 (x44 - (x39.length : Int))))] w (by kernel_rfl) ?_
  refine W_nil ?_
  refine N_then ?_
  refine G_seq ?_
  refine G_seq ?_
  refine G_region ?_
  refine W_run 2 [(1, .int .i64 (w64 (x44 - (x39.length : Int)))), (10, .bool (decide ((w64 (x44 - (x39.length : Int))) < 0)))] w (by kernel_rfl) ?_
  refine W_nil ?_
  refine N_then ?_
  rcases gx_bif hm with ⟨hc45, hm⟩ | ⟨hc45, hm⟩
  · refine G_cond_t (b := (decide ((w64 (x44 - (x39.length : Int))) < 0))) hc45 (by kernel_rfl) ?_
    refine G_seq ?_
    refine G_region ?_
    refine W_run 1 [(4, .int .i64 (-1))] w (by kernel_rfl) ?_
    refine W_nil ?_
    refine N_then ?_
    refine G_ret ?_
    refine N_then_ret ?_
    obtain rfl := Option.some.inj hm
    refine N_ret [.int .i64 (-1)] (RVs_cons (RV_tmp (by kernel_rfl)) RVs_nil) ?_
    exact ⟨rfl, M0.pick [] (by kernel_rfl)⟩
  refine G_cond_f (b := (decide ((w64 (x44 - (x39.length : Int))) < 0))) hc45 (by kernel_rfl) ?_
  refine G_skip ?_
  refine N_then ?_
  refine G_seq ?_
  refine G_region ?_
  refine W_run 2 [(4, .int .i64 (w64 (x44 - (x39.length : Int))))] w (by kernel_rfl) ?_
  refine W_nil ?_
  refine N_then ?_
  refine G_ret ?_
  obtain rfl := Option.some.inj hm
  refine N_ret [.int .i64 (w64 (x44 - (x39.length : Int)))] (RVs_cons (RV_tmp (by kernel_rfl)) RVs_nil) ?_
  exact ⟨rfl, M0.pick [] (by kernel_rfl)⟩
theorem c_l_szBalloon (w : World) (x29 : Balloon) (p31 : Option Addr) (c32 : Nat) (h33 : rdS Gx.encI w x29.Gave p31 c32) (x34 : Int) {r : Int} (hm : M.l_szBalloon x29 x34 = some r) :
    Calls Try.prog 46 #[.agg #[.int .i64 x29.Guest, .int .i64 x29.Goal, .slice p31 x29.Gave.length c32], .int .i64 x34] w fun e w' => e = .returned (.int .i64 r) ∧ Mem [] w w' [] := by
  unfold M.l_szBalloon at hm
  refine C_enter Try.func46 rfl (by kernel_rfl) ?_
  have M0 := Mem.refl [] w
  refine G_seq ?_
  refine G_region ?_
  refine W_new (fun b => .pointer (some ⟨b, 0, none⟩)) (.cells ⟨[.int .i64 x29.Guest, .int .i64 x29.Goal, .slice p31 x29.Gave.length c32]⟩ 56 (0, 0)) M0 rfl (by kernel_rfl) (by kernel_rfl) ?_
  intro b36 w37 M38
  refine W_run 1 [(1, .int .i64 x34), (2, .pointer (some ⟨b36, 0, none⟩))] w37 (by kernel_rfl) ?_
  refine W_nil ?_
  refine N_then ?_
  refine G_seq ?_
  refine G_region ?_
  refine W_run 1 [(1, .int .i64 x34), (5, .pointer (some ⟨b36, 2, none⟩))] w37 (by kernel_rfl) ?_
  refine W_val (.slice p31 x29.Gave.length c32) w37 (by kernel_rfl) (E_load (e := 56) (fr := (0, 0)) _ _ false 1 b36 2 [.int .i64 x29.Guest, .int .i64 x29.Goal, .slice p31 x29.Gave.length c32] (.slice p31 x29.Gave.length c32) rfl (by kernel_rfl) (by kernel_rfl) (by kernel_rfl) (M38.blk 0 (b := b36) (o := .cells ⟨[.int .i64 x29.Guest, .int .i64 x29.Goal, .slice p31 x29.Gave.length c32]⟩ 56 (0, 0)) (by kernel_rfl))) ?_
  refine W_run 1 [(1, .int .i64 x34), (6, .slice p31 x29.Gave.length c32), (7, .int .i64 x34)] w37 (by kernel_rfl) ?_
  obtain ⟨r46, hr46, hm⟩ := gx_bind hm
  refine W_call 78 #[.slice p31 x29.Gave.length c32, .int .i64 x34] (by kernel_rfl) (by kernel_rfl) ?_
  refine (c_l_szIntS w37 x29.Gave p31 c32 (h33.mem0 M38) x34 hr46).mono ?_
  rintro e_ w47 ⟨rfl, K48⟩
  have M49 := M38.call0 K48
  refine ⟨_, rfl, ?_⟩
  refine W_run 1 [(1, .int .i64 r46)] w47 (by kernel_rfl) ?_
  refine W_nil ?_
  refine N_then ?_
  refine G_seq ?_
  refine G_seq ?_
  refine G_region ?_
  refine W_run 2 [(1, .int .i64 r46), (10, .bool (decide (r46 < 0)))] w47 (by kernel_rfl) ?_
  refine W_nil ?_
  refine N_then ?_
  rcases gx_bif hm with ⟨hc50, hm⟩ | ⟨hc50, hm⟩
  · refine G_cond_t (b := (decide (r46 < 0))) hc50 (by kernel_rfl) ?_
    refine G_seq ?_
    refine G_region ?_
    refine W_run 1 [(4, .int .i64 (-1))] w47 (by kernel_rfl) ?_
    refine W_nil ?_
    refine N_then ?_
    refine G_ret ?_
    refine N_then_ret ?_
    obtain rfl := Option.some.inj hm
    refine N_ret [.int .i64 (-1)] (RVs_cons (RV_tmp (by kernel_rfl)) RVs_nil) ?_
    exact ⟨rfl, M49.pick [] (by kernel_rfl)⟩
  refine G_cond_f (b := (decide (r46 < 0))) hc50 (by kernel_rfl) ?_
  refine G_skip ?_
  refine N_then ?_
  refine G_seq ?_
  refine G_region ?_
  refine W_run 2 [(4, .int .i64 r46)] w47 (by kernel_rfl) ?_
  refine W_nil ?_
  refine N_then ?_
  refine G_ret ?_
  obtain rfl := Option.some.inj hm
  refine N_ret [.int .i64 r46] (RVs_cons (RV_tmp (by kernel_rfl)) RVs_nil) ?_
  exact ⟨rfl, M49.pick [] (by kernel_rfl)⟩
theorem c_l_szBalloonS (w : World) (x13 : List Balloon) (p15 : Option Addr) (c16 : Nat) (h17 : rdD deepBalloon w x13 p15 c16) (x18 : Int) {r : Int} (hm : M.l_szBalloonS x13 x18 = some r) :
    Calls Try.prog 13 #[.slice p15 x13.length c16, .int .i64 x18] w fun e w' => e = .returned (.int .i64 r) ∧ Mem [] w w' [] := by
  unfold M.l_szBalloonS at hm
  refine C_enter Try.func13 rfl (by kernel_rfl) ?_
  have M0 := Mem.refl [] w
  refine G_seq ?_
  refine G_region ?_
  refine W_run 1 [(0, .slice p15 x13.length c16), (1, .int .i64 x18)] w (by kernel_rfl) ?_
  refine W_nil ?_
  refine N_then ?_
  refine G_seq ?_
  refine G_region ?_
  refine W_run 5 [(0, .slice p15 x13.length c16), (1, .int .i64 (w64 (x18 - (x13.length : Int))))] w (by kernel_rfl) ?_
  refine W_nil ?_
  refine N_then ?_
  refine G_seq ?_
  refine G_seq ?_
  refine G_region ?_
  refine W_run 2 [(0, .slice p15 x13.length c16), (1, .int .i64 (w64 (x18 - (x13.length : Int)))), (11, .bool (decide ((w64 (x18 - (x13.length : Int))) < 0)))] w (by kernel_rfl) ?_
  refine W_nil ?_
  refine N_then ?_
  rcases gx_bif hm with ⟨hc19, hm⟩ | ⟨hc19, hm⟩
  · refine G_cond_t (b := (decide ((w64 (x18 - (x13.length : Int))) < 0))) hc19 (by kernel_rfl) ?_
    refine G_seq ?_
    refine G_region ?_
    refine W_run 1 [(4, .int .i64 (-1))] w (by kernel_rfl) ?_
    refine W_nil ?_
    refine N_then ?_
    refine G_ret ?_
    refine N_then_ret ?_
    obtain rfl := Option.some.inj hm
    refine N_ret [.int .i64 (-1)] (RVs_cons (RV_tmp (by kernel_rfl)) RVs_nil) ?_
    exact ⟨rfl, M0.pick [] (by kernel_rfl)⟩
  refine G_cond_f (b := (decide ((w64 (x18 - (x13.length : Int))) < 0))) hc19 (by kernel_rfl) ?_
  refine G_skip ?_
  refine N_then ?_
  refine G_seq ?_
  refine G_seq ?_
  refine G_region ?_
  refine W_run 1 [(0, .slice p15 x13.length c16), (1, .int .i64 (w64 (x18 - (x13.length : Int)))), (5, .int .i64 0)] w (by kernel_rfl) ?_
  refine W_nil ?_
  refine N_then ?_
  obtain ⟨out77, hw78, hmo79⟩ := gx_bind hm
  refine G_meet (fun a w' => ∃ (o80 : Int), out77 = .inl o80 ∧ Mem [] w w' [] ∧ Sat Try.f13.ntmps [(1, .int .i64 o80)] a) ?_ ?_
  · refine G_block ?_
    refine G_while (σ := Int × Int) (ρ := (Int) ⊕ (Int)) (fun s70 a w' => Mem [] w w' [] ∧ Sat Try.f13.ntmps [(0, .slice p15 x13.length c16), (1, .int .i64 s70.1), (5, .int .i64 s70.2)] a) hw78 (fun a ha => ⟨M0.pick [] (by kernel_rfl), ha.sub (by kernel_rfl)⟩) ?_
    clear hm
    intro s70 x71 hm hout72 a73 w74 ⟨M75, hS76⟩
    refine G_use hS76 ?_
    refine G_seq ?_
    refine G_seq ?_
    refine G_region ?_
    refine W_run 4 [(0, .slice p15 x13.length c16), (1, .int .i64 s70.1), (5, .int .i64 s70.2), (15, .bool (decide (s70.2 < (x13.length : Int))))] w74 (by kernel_rfl) ?_
    refine W_nil ?_
    refine N_then ?_
    rcases gx_bif hm with ⟨hc81, hm⟩ | ⟨hc81, hm⟩
    · refine G_cond_t (b := (decide (s70.2 < (x13.length : Int)))) hc81 (by kernel_rfl) ?_
      refine G_skip ?_
      refine N_then ?_
      refine G_seq ?_
      refine G_block ?_
      refine G_seq ?_
      refine G_region ?_
      refine W_run 2 [(0, .slice p15 x13.length c16), (1, .int .i64 s70.1), (5, .int .i64 s70.2), (18, .slice p15 x13.length c16), (19, .int .i64 s70.2)] w74 (by kernel_rfl) ?_
      obtain ⟨y82, hy82, hm⟩ := gx_bind hm
      obtain ⟨zs83, hz84, hr85, hi86⟩ := id h17
      obtain ⟨g87, hg88⟩ := gxIdx_fst hz84 hy82
      refine W_val (elemP p15 (s70.2.toNat * 3)) w74 (by kernel_rfl) (E_index (E := deepBalloon.E) _ _ _ x13.length c16 .i64 s70.2 3 (y := (y82, g87)) rfl (by kernel_rfl) (by kernel_rfl) (by kernel_rfl) (hr85.mem0 M75) (len_fst hz84) hg88) ?_
      refine W_val (.agg #[.int .i64 y82.Guest, .int .i64 y82.Goal, .slice ((g87 0).1) y82.Gave.length ((g87 0).2)]) w74 (by kernel_rfl) (E_loadE (E := deepBalloon.E) _ _ true 3 s70.2 0 (s70.2.toNat * 3) (y82, g87) (.agg #[.int .i64 y82.Guest, .int .i64 y82.Goal, .slice ((g87 0).1) y82.Gave.length ((g87 0).2)]) rfl (by kernel_rfl) (by kernel_rfl) (by kernel_rfl) (hr85.mem0 M75) hg88 rfl) ?_
      refine W_run 1 [(0, .slice p15 x13.length c16), (1, .int .i64 s70.1), (5, .int .i64 s70.2), (21, .agg #[.int .i64 y82.Guest, .int .i64 y82.Goal, .slice ((g87 0).1) y82.Gave.length ((g87 0).2)]), (22, .int .i64 s70.1)] w74 (by kernel_rfl) ?_
      obtain ⟨r90, hr90, hm⟩ := gx_bind hm
      refine W_call 46 #[.agg #[.int .i64 y82.Guest, .int .i64 y82.Goal, .slice ((g87 0).1) y82.Gave.length ((g87 0).2)], .int .i64 s70.1] (by kernel_rfl) (by kernel_rfl) ?_
      refine (c_l_szBalloon w74 y82 ((g87 0).1) ((g87 0).2) ((hi86.mem0 M75).at_ hg88 0 ⟨Int, Gx.encI, y82.Gave, (g87 0).1, (g87 0).2⟩ (by kernel_rfl)) s70.1 hr90).mono ?_
      rintro e_ w91 ⟨rfl, K92⟩
      have M93 := M75.call0 K92
      refine ⟨_, rfl, ?_⟩
      refine W_run 1 [(0, .slice p15 x13.length c16), (1, .int .i64 r90), (5, .int .i64 s70.2)] w91 (by kernel_rfl) ?_
      refine W_nil ?_
      refine N_then ?_
      refine G_seq ?_
      refine G_region ?_
      refine W_run 2 [(0, .slice p15 x13.length c16), (1, .int .i64 r90), (5, .int .i64 s70.2), (25, .bool (decide (r90 < 0)))] w91 (by kernel_rfl) ?_
      refine W_nil ?_
      refine N_then ?_
      rcases gx_bif hm with ⟨hc94, hm⟩ | ⟨hc94, hm⟩
      · refine G_cond_t (b := (decide (r90 < 0))) hc94 (by kernel_rfl) ?_
        refine G_seq ?_
        refine G_region ?_
        refine W_run 1 [(4, .int .i64 (-1))] w91 (by kernel_rfl) ?_
        refine W_nil ?_
        refine N_then ?_
        refine G_ret ?_
        refine N_block_ret ?_
        refine N_then_ret ?_
        refine N_then_ret ?_
        obtain rfl := Option.some.inj hm
        obtain rfl := hout72 _ rfl
        have hm := hmo79; simp only [Sum.elim_inr] at hm
        refine N_block_ret ?_
        refine N_meet_ret ?_
        refine N_then_ret ?_
        obtain rfl := Option.some.inj hm
        refine N_ret [.int .i64 (-1)] (RVs_cons (RV_tmp (by kernel_rfl)) RVs_nil) ?_
        exact ⟨rfl, M93.pick [] (by kernel_rfl)⟩
      refine G_cond_f (b := (decide (r90 < 0))) hc94 (by kernel_rfl) ?_
      refine G_skip ?_
      refine N_block ?_
      refine N_then ?_
      refine G_region ?_
      refine W_run 3 [(0, .slice p15 x13.length c16), (1, .int .i64 r90), (5, .int .i64 (w64 (s70.2 + 1)))] w91 (by kernel_rfl) ?_
      refine W_nil ?_
      obtain rfl := Option.some.inj hm
      exact N_loop fun a ha => ⟨_, rfl, M93.pick [] (by kernel_rfl), ha.sub (by kernel_rfl)⟩
    refine G_cond_f (b := (decide (s70.2 < (x13.length : Int)))) hc81 (by kernel_rfl) ?_
    refine G_exit ?_
    refine N_then_exit ?_
    refine N_then_exit ?_
    refine N_block_eq ?_
    obtain rfl := Option.some.inj hm
    obtain rfl := hout72 _ rfl
    exact N_meet fun a ha => ⟨_, rfl, M75.pick [] (by kernel_rfl), ha.sub (by kernel_rfl)⟩
  intro a95 w96 ⟨o80, hout_, M97, hS98⟩
  refine N_use hS98 ?_
  subst hout_
  have hm := hmo79; simp only [Sum.elim_inl] at hm
  refine N_then ?_
  refine G_seq ?_
  refine G_region ?_
  refine W_run 2 [(4, .int .i64 o80)] w96 (by kernel_rfl) ?_
  refine W_nil ?_
  refine N_then ?_
  refine G_ret ?_
  obtain rfl := Option.some.inj hm
  refine N_ret [.int .i64 o80] (RVs_cons (RV_tmp (by kernel_rfl)) RVs_nil) ?_
  exact ⟨rfl, M97.pick [] (by kernel_rfl)⟩
theorem c_l_toIntS (w : World) (x104 : List Int) (p106 : Option Addr) (c107 : Nat) (h108 : rdS Gx.encI w x104 p106 c107) {r : (List Int)} (hm : M.l_toIntS x104 = some r) :
    Calls Try.prog 15 #[.slice p106 x104.length c107] w fun e w' => ∃ (p110 : Option Addr) (c111 : Nat) (sg112 : Seg), e = .returned (.slice p110 r.length c111) ∧ ownS Gx.encI r p110 c111 sg112 ∧ Mem [] w w' [sg112] := by
  unfold M.l_toIntS at hm
  refine C_enter Try.func15 rfl (by kernel_rfl) ?_
  have M0 := Mem.refl [] w
  refine G_seq ?_
  refine G_region ?_
  refine W_run 1 [(0, .slice p106 x104.length c107)] w (by kernel_rfl) ?_
  refine W_nil ?_
  refine N_then ?_
  refine G_seq ?_
  refine G_region ?_
  refine W_run 2 [(0, .slice p106 x104.length c107), (6, .int .i64 (x104.length : Int))] w (by kernel_rfl) ?_
  obtain ⟨mk114, hmk114, hm⟩ := gx_bind hm
  refine W_make (E := Gx.encI) _ _ _ (x104.length : Int) 8 [.int .i64 0] (0 : Int) M0 (by kernel_rfl) rfl (by kernel_rfl) (by kernel_rfl) (by kernel_rfl) (by kernel_rfl) (by kernel_rfl) hmk114 ?_
  intro p115 c116 sg117 w118 ho119 M120
  refine W_run 1 [(0, .slice p106 x104.length c107), (3, .slice p115 mk114.length c116)] w118 (by kernel_rfl) ?_
  refine W_nil ?_
  refine N_then ?_
  refine G_seq ?_
  refine G_seq ?_
  refine G_region ?_
  refine W_run 1 [(0, .slice p106 x104.length c107), (3, .slice p115 mk114.length c116), (4, .int .i64 0)] w118 (by kernel_rfl) ?_
  refine W_nil ?_
  refine N_then ?_
  obtain ⟨out145, hw146, hmo147⟩ := gx_bind hm
  refine G_meet (fun a w' => ∃ (sg151 : Seg), ownS Gx.encI out145 p115 c116 sg151 ∧ Mem [] w w' [sg151] ∧ Sat Try.f15.ntmps [(3, .slice p115 out145.length c116)] a) ?_ ?_
  · refine G_block ?_
    refine G_while (σ := Int × List Int) (ρ := List Int) (fun s138 a w' => ∃ (sg148 : Seg), ownS Gx.encI s138.2 p115 c116 sg148 ∧ Mem [] w w' [sg148] ∧ Sat Try.f15.ntmps [(0, .slice p106 x104.length c107), (3, .slice p115 s138.2.length c116), (4, .int .i64 s138.1)] a) hw146 (fun a ha => ⟨sg117, ho119, M120.pick [0] (by kernel_rfl), ha.sub (by kernel_rfl)⟩) ?_
    clear hm
    intro s138 x139 hm hout140 a141 w142 ⟨sg148, ho149, M143, hS144⟩
    refine G_use hS144 ?_
    refine G_seq ?_
    refine G_seq ?_
    refine G_region ?_
    refine W_run 4 [(0, .slice p106 x104.length c107), (3, .slice p115 s138.2.length c116), (4, .int .i64 s138.1), (11, .bool (decide (s138.1 < (x104.length : Int))))] w142 (by kernel_rfl) ?_
    refine W_nil ?_
    refine N_then ?_
    rcases gx_bif hm with ⟨hc153, hm⟩ | ⟨hc153, hm⟩
    · refine G_cond_t (b := (decide (s138.1 < (x104.length : Int)))) hc153 (by kernel_rfl) ?_
      refine G_skip ?_
      refine N_then ?_
      refine G_seq ?_
      refine G_block ?_
      refine G_region ?_
      refine W_run 4 [(0, .slice p106 x104.length c107), (3, .slice p115 s138.2.length c116), (4, .int .i64 s138.1), (14, .slice p115 s138.2.length c116), (15, .int .i64 s138.1), (16, .slice p106 x104.length c107), (17, .int .i64 s138.1)] w142 (by kernel_rfl) ?_
      obtain ⟨y154, hy154, hm⟩ := gx_bind hm
      refine W_val (elemP p106 (s138.1.toNat * 1)) w142 (by kernel_rfl) (E_index (E := Gx.encI) _ _ _ x104.length c107 .i64 s138.1 1 (y := y154) rfl (by kernel_rfl) (by kernel_rfl) (by kernel_rfl) (h108.mem0 M143) rfl hy154) ?_
      refine W_val (.int .i64 y154) w142 (by kernel_rfl) (E_loadE (E := Gx.encI) _ _ false 1 s138.1 0 (s138.1.toNat * 1) y154 (.int .i64 y154) rfl (by kernel_rfl) (by kernel_rfl) (by kernel_rfl) (h108.mem0 M143) hy154 rfl) ?_
      obtain ⟨y155, hy155, hm⟩ := gx_bind hm
      refine W_val (elemP p115 (s138.1.toNat * 1)) w142 (by kernel_rfl) (E_index (E := Gx.encI) _ _ _ s138.2.length c116 .i64 s138.1 1 (y := y155) rfl (by kernel_rfl) (by kernel_rfl) (by kernel_rfl) (ho149.rd M143 0 (by kernel_rfl)) rfl hy155) ?_
      refine W_storeE (E := Gx.encI) _ _ _ false 1 s138.1.toNat 0 (s138.1.toNat * 1) y155 y154 (.int .i64 y154) 0 M143 ho149 (by kernel_rfl) (by kernel_rfl) rfl (by kernel_rfl) (by kernel_rfl) (by kernel_rfl) (by kernel_rfl) (by kernel_rfl) (by kernel_rfl) (by kernel_rfl) (gxIdx_spec hy155).2 rfl ?_
      intro w156 sg158 ho159 M157
      refine W_conv 3 (.slice p115 s138.2.length c116) (.slice p115 (s138.2.set s138.1.toNat y154).length c116) (by kernel_rfl) (by rw [@List.length_set _ s138.2 s138.1.toNat y154]) ?_
      refine W_conv 14 (.slice p115 s138.2.length c116) (.slice p115 (s138.2.set s138.1.toNat y154).length c116) (by kernel_rfl) (by rw [@List.length_set _ s138.2 s138.1.toNat y154]) ?_
      refine W_nil ?_
      refine N_block ?_
      refine N_then ?_
      refine G_region ?_
      refine W_run 3 [(0, .slice p106 x104.length c107), (3, .slice p115 (s138.2.set s138.1.toNat y154).length c116), (4, .int .i64 (w64 (s138.1 + 1)))] w156 (by kernel_rfl) ?_
      refine W_nil ?_
      obtain rfl := Option.some.inj hm
      exact N_loop fun a ha => ⟨_, rfl, sg158, ho159, M157.pick [0] (by kernel_rfl), ha.sub (by kernel_rfl)⟩
    refine G_cond_f (b := (decide (s138.1 < (x104.length : Int)))) hc153 (by kernel_rfl) ?_
    refine G_exit ?_
    refine N_then_exit ?_
    refine N_then_exit ?_
    refine N_block_eq ?_
    obtain rfl := Option.some.inj hm
    obtain rfl := hout140 _ rfl
    exact N_meet fun a ha => ⟨sg148, ho149, M143.pick [0] (by kernel_rfl), ha.sub (by kernel_rfl)⟩
  intro a160 w161 ⟨sg151, ho152, M162, hS163⟩
  refine N_use hS163 ?_
  have hm := hmo147
  refine N_then ?_
  refine G_seq ?_
  refine G_region ?_
  refine W_run 2 [(2, .slice p115 out145.length c116)] w161 (by kernel_rfl) ?_
  refine W_nil ?_
  refine N_then ?_
  refine G_ret ?_
  obtain rfl := Option.some.inj hm
  refine N_ret [.slice p115 out145.length c116] (RVs_cons (RV_tmp (by kernel_rfl)) RVs_nil) ?_
  exact ⟨p115, c116, sg151, rfl, ho152, M162.pick [0] (by kernel_rfl)⟩
theorem c_l_toBalloon (w : World) (x204 : Balloon) (p206 : Option Addr) (c207 : Nat) (h208 : rdS Gx.encI w x204.Gave p206 c207) {r : Balloon} (hm : M.l_toBalloon x204 = some r) :
    Calls Try.prog 48 #[.agg #[.int .i64 x204.Guest, .int .i64 x204.Goal, .slice p206 x204.Gave.length c207]] w fun e w' => ∃ (p210 : Option Addr) (c211 : Nat) (sg212 : Seg), e = .returned (.agg #[.int .i64 r.Guest, .int .i64 r.Goal, .slice p210 r.Gave.length c211]) ∧ ownS Gx.encI r.Gave p210 c211 sg212 ∧ Mem [] w w' [sg212] := by
  unfold M.l_toBalloon at hm
  refine C_enter Try.func48 rfl (by kernel_rfl) ?_
  have M0 := Mem.refl [] w
  refine G_seq ?_
  refine G_region ?_
  refine W_new (fun b => .pointer (some ⟨b, 0, none⟩)) (.cells ⟨[.int .i64 x204.Guest, .int .i64 x204.Goal, .slice p206 x204.Gave.length c207]⟩ 56 (0, 0)) M0 rfl (by kernel_rfl) (by kernel_rfl) ?_
  intro b214 w215 M216
  refine W_new (fun b => .pointer (some ⟨b, 0, none⟩)) (.cells ⟨[.int .i64 0, .int .i64 0, .slice none 0 0]⟩ 50 (0, 0)) M216 rfl (by kernel_rfl) (by kernel_rfl) ?_
  intro b219 w220 M221
  refine W_nil ?_
  refine N_then ?_
  refine G_seq ?_
  refine G_region ?_
  refine W_new (fun b => .pointer (some ⟨b, 0, none⟩)) (.cells ⟨[.int .i64 0, .int .i64 0, .slice none 0 0]⟩ 50 (0, 0)) M221 rfl (by kernel_rfl) (by kernel_rfl) ?_
  intro b224 w225 M226
  refine W_nil ?_
  refine N_then ?_
  refine G_seq ?_
  refine G_region ?_
  refine W_run 1 [(1, .pointer (some ⟨b214, 0, none⟩)), (2, .pointer (some ⟨b219, 0, none⟩)), (3, .pointer (some ⟨b224, 0, none⟩)), (4, .pointer (some ⟨b214, 0, none⟩))] w225 (by kernel_rfl) ?_
  refine W_val (.int .i64 x204.Guest) w225 (by kernel_rfl) (E_load (e := 56) (fr := (0, 0)) _ _ false 1 b214 0 [.int .i64 x204.Guest, .int .i64 x204.Goal, .slice p206 x204.Gave.length c207] (.int .i64 x204.Guest) rfl (by kernel_rfl) (by kernel_rfl) (by kernel_rfl) (M226.blk 0 (b := b214) (o := .cells ⟨[.int .i64 x204.Guest, .int .i64 x204.Goal, .slice p206 x204.Gave.length c207]⟩ 56 (0, 0)) (by kernel_rfl))) ?_
  refine W_run 1 [(1, .pointer (some ⟨b214, 0, none⟩)), (2, .pointer (some ⟨b219, 0, none⟩)), (3, .pointer (some ⟨b224, 0, none⟩)), (5, .int .i64 x204.Guest), (6, .pointer (some ⟨b224, 0, none⟩))] w225 (by kernel_rfl) ?_
  refine W_store _ _ _ false 1 b224 0 [.int .i64 0, .int .i64 0, .slice none 0 0] 50 (.int .i64 x204.Guest) 2 [.int .i64 x204.Guest, .int .i64 0, .slice none 0 0] M226 (by kernel_rfl) rfl (by kernel_rfl) (by kernel_rfl) (by kernel_rfl) (by kernel_rfl) (by kernel_rfl) (by kernel_rfl) (by kernel_rfl) (by kernel_rfl) ?_
  intro w227 M228
  refine W_nil ?_
  refine N_then ?_
  refine G_seq ?_
  refine G_region ?_
  refine W_run 1 [(1, .pointer (some ⟨b214, 0, none⟩)), (2, .pointer (some ⟨b219, 0, none⟩)), (3, .pointer (some ⟨b224, 0, none⟩)), (7, .pointer (some ⟨b214, 1, none⟩))] w227 (by kernel_rfl) ?_
  refine W_val (.int .i64 x204.Goal) w227 (by kernel_rfl) (E_load (e := 56) (fr := (0, 0)) _ _ false 1 b214 1 [.int .i64 x204.Guest, .int .i64 x204.Goal, .slice p206 x204.Gave.length c207] (.int .i64 x204.Goal) rfl (by kernel_rfl) (by kernel_rfl) (by kernel_rfl) (M228.blk 0 (b := b214) (o := .cells ⟨[.int .i64 x204.Guest, .int .i64 x204.Goal, .slice p206 x204.Gave.length c207]⟩ 56 (0, 0)) (by kernel_rfl))) ?_
  refine W_run 1 [(1, .pointer (some ⟨b214, 0, none⟩)), (2, .pointer (some ⟨b219, 0, none⟩)), (3, .pointer (some ⟨b224, 0, none⟩)), (8, .int .i64 x204.Goal), (9, .pointer (some ⟨b224, 1, none⟩))] w227 (by kernel_rfl) ?_
  refine W_store _ _ _ false 1 b224 1 [.int .i64 x204.Guest, .int .i64 0, .slice none 0 0] 50 (.int .i64 x204.Goal) 2 [.int .i64 x204.Guest, .int .i64 x204.Goal, .slice none 0 0] M228 (by kernel_rfl) rfl (by kernel_rfl) (by kernel_rfl) (by kernel_rfl) (by kernel_rfl) (by kernel_rfl) (by kernel_rfl) (by kernel_rfl) (by kernel_rfl) ?_
  intro w229 M230
  refine W_nil ?_
  refine N_then ?_
  refine G_seq ?_
  refine G_region ?_
  refine W_run 1 [(2, .pointer (some ⟨b219, 0, none⟩)), (3, .pointer (some ⟨b224, 0, none⟩)), (10, .pointer (some ⟨b214, 2, none⟩))] w229 (by kernel_rfl) ?_
  refine W_val (.slice p206 x204.Gave.length c207) w229 (by kernel_rfl) (E_load (e := 56) (fr := (0, 0)) _ _ false 1 b214 2 [.int .i64 x204.Guest, .int .i64 x204.Goal, .slice p206 x204.Gave.length c207] (.slice p206 x204.Gave.length c207) rfl (by kernel_rfl) (by kernel_rfl) (by kernel_rfl) (M230.blk 0 (b := b214) (o := .cells ⟨[.int .i64 x204.Guest, .int .i64 x204.Goal, .slice p206 x204.Gave.length c207]⟩ 56 (0, 0)) (by kernel_rfl))) ?_
  obtain ⟨r231, hr231, hm⟩ := gx_bind hm
  refine W_call 15 #[.slice p206 x204.Gave.length c207] (by kernel_rfl) (by kernel_rfl) ?_
  refine (c_l_toIntS w229 x204.Gave p206 c207 (h208.mem0 M230) hr231).mono ?_
  rintro e_ w237 ⟨p233, c234, sg235, rfl, ho236, K238⟩
  have M239 := M230.call K238
  refine ⟨_, rfl, ?_⟩
  refine W_run 1 [(2, .pointer (some ⟨b219, 0, none⟩)), (3, .pointer (some ⟨b224, 0, none⟩)), (12, .slice p233 r231.length c234), (13, .pointer (some ⟨b224, 2, none⟩))] w237 (by kernel_rfl) ?_
  refine W_store _ _ _ false 1 b224 2 [.int .i64 x204.Guest, .int .i64 x204.Goal, .slice none 0 0] 50 (.slice p233 r231.length c234) 2 [.int .i64 x204.Guest, .int .i64 x204.Goal, .slice p233 r231.length c234] M239 (by kernel_rfl) rfl (by kernel_rfl) (by kernel_rfl) (by kernel_rfl) (by kernel_rfl) (by kernel_rfl) (by kernel_rfl) (by kernel_rfl) (by kernel_rfl) ?_
  intro w240 M241
  refine W_nil ?_
  refine N_then ?_
  refine G_seq ?_
  refine G_region ?_
  refine W_val (.agg #[.int .i64 x204.Guest, .int .i64 x204.Goal, .slice p233 r231.length c234]) w240 (by kernel_rfl) (E_load (e := 50) (fr := (0, 0)) _ _ true 3 b224 0 [.int .i64 x204.Guest, .int .i64 x204.Goal, .slice p233 r231.length c234] (.agg #[.int .i64 x204.Guest, .int .i64 x204.Goal, .slice p233 r231.length c234]) rfl (by kernel_rfl) (by kernel_rfl) (by kernel_rfl) (M241.blk 2 (b := b224) (o := .cells ⟨[.int .i64 x204.Guest, .int .i64 x204.Goal, .slice p233 r231.length c234]⟩ 50 (0, 0)) (by kernel_rfl))) ?_
  refine W_store _ _ _ true 3 b219 0 [.int .i64 0, .int .i64 0, .slice none 0 0] 50 (.agg #[.int .i64 x204.Guest, .int .i64 x204.Goal, .slice p233 r231.length c234]) 1 [.int .i64 x204.Guest, .int .i64 x204.Goal, .slice p233 r231.length c234] M241 (by kernel_rfl) rfl (by kernel_rfl) (by kernel_rfl) (by kernel_rfl) (by kernel_rfl) (by kernel_rfl) (by kernel_rfl) (by kernel_rfl) (by kernel_rfl) ?_
  intro w242 M243
  refine W_nil ?_
  refine N_then ?_
  refine G_ret ?_
  obtain rfl := Option.some.inj hm
  refine N_ret [.agg #[.int .i64 x204.Guest, .int .i64 x204.Goal, .slice p233 r231.length c234]] (RVs_cons (RV_cell (g := true) (k := 3) (b := b219) (off := 0) (cs := [.int .i64 x204.Guest, .int .i64 x204.Goal, .slice p233 r231.length c234]) (e := 50) (fr := (0, 0)) (v := .agg #[.int .i64 x204.Guest, .int .i64 x204.Goal, .slice p233 r231.length c234]) (M243.blk 1 (b := b219) (o := .cells ⟨[.int .i64 x204.Guest, .int .i64 x204.Goal, .slice p233 r231.length c234]⟩ 50 (0, 0)) (by kernel_rfl)) (by kernel_rfl) (by kernel_rfl) (by kernel_rfl)) RVs_nil) ?_
  exact ⟨p233, c234, sg235, rfl, ho236, M243.pick [3] (by kernel_rfl)⟩
theorem c_l_toBalloonS (w : World) (x173 : List Balloon) (p175 : Option Addr) (c176 : Nat) (h177 : rdD deepBalloon w x173 p175 c176) {r : (List Balloon)} (hm : M.l_toBalloonS x173 = some r) :
    Calls Try.prog 16 #[.slice p175 x173.length c176] w fun e w' => ∃ (p179 : Option Addr) (c180 : Nat) (sg181 : Seg) (sg182 : Seg), e = .returned (.slice p179 r.length c180) ∧ ownD deepBalloon r p179 c180 sg181 sg182 ∧ Mem [] w w' [sg181, sg182] := by
  unfold M.l_toBalloonS at hm
  refine C_enter Try.func16 rfl (by kernel_rfl) ?_
  have M0 := Mem.refl [] w
  refine G_seq ?_
  refine G_region ?_
  refine W_run 1 [(0, .slice p175 x173.length c176)] w (by kernel_rfl) ?_
  refine W_nil ?_
  refine N_then ?_
  refine G_seq ?_
  refine G_region ?_
  refine W_run 2 [(0, .slice p175 x173.length c176), (6, .int .i64 (x173.length : Int))] w (by kernel_rfl) ?_
  obtain ⟨mk185, hmk185, hm⟩ := gx_bind hm
  refine W_makeD (D := deepBalloon) _ _ _ (x173.length : Int) 40 [.int .i64 0, .int .i64 0, .slice none 0 0] ((⟨0, 0, []⟩ : Balloon) : Balloon) (plOf []) M0 (by kernel_rfl) rfl (by kernel_rfl) (by kernel_rfl) (by kernel_rfl) (by kernel_rfl) (by kernel_rfl) (by intro i hi; simp [deepBalloon] at hi; first | (subst hi; exact ⟨rfl, rfl, rfl⟩) | (rcases hi with rfl | rfl | rfl <;> exact ⟨rfl, rfl, rfl⟩) | (rcases hi with rfl | rfl <;> exact ⟨rfl, rfl, rfl⟩)) hmk185 ?_
  intro p186 c187 sg188 w189 ho190 M191
  have M193 := M191.addNil
  obtain ⟨n192, n192e⟩ : ∃ s : Seg, s = [] := ⟨_, rfl⟩
  rw [← n192e] at ho190 M193
  refine W_run 1 [(0, .slice p175 x173.length c176), (3, .slice p186 mk185.length c187)] w189 (by kernel_rfl) ?_
  refine W_nil ?_
  refine N_then ?_
  refine G_seq ?_
  refine G_seq ?_
  refine G_region ?_
  refine W_run 1 [(0, .slice p175 x173.length c176), (3, .slice p186 mk185.length c187), (4, .int .i64 0)] w189 (by kernel_rfl) ?_
  refine W_nil ?_
  refine N_then ?_
  obtain ⟨out327, hw328, hmo329⟩ := gx_bind hm
  refine G_meet (fun a w' => ∃ (sg334 : Seg), ∃ (sg335 : Seg), ownD deepBalloon out327 p186 c187 sg334 sg335 ∧ Mem [] w w' [sg334, sg335] ∧ Sat Try.f16.ntmps [(3, .slice p186 out327.length c187)] a) ?_ ?_
  · refine G_block ?_
    refine G_while (σ := Int × List Balloon) (ρ := List Balloon) (fun s320 a w' => ∃ (sg330 : Seg), ∃ (sg331 : Seg), ownD deepBalloon s320.2 p186 c187 sg330 sg331 ∧ Mem [] w w' [sg330, sg331] ∧ Sat Try.f16.ntmps [(0, .slice p175 x173.length c176), (3, .slice p186 s320.2.length c187), (4, .int .i64 s320.1)] a) hw328 (fun a ha => ⟨sg188, n192, ho190, M193.pick [0, 1] (by kernel_rfl), ha.sub (by kernel_rfl)⟩) ?_
    clear hm
    intro s320 x321 hm hout322 a323 w324 ⟨sg330, sg331, ho332, M325, hS326⟩
    refine G_use hS326 ?_
    refine G_seq ?_
    refine G_seq ?_
    refine G_region ?_
    refine W_run 4 [(0, .slice p175 x173.length c176), (3, .slice p186 s320.2.length c187), (4, .int .i64 s320.1), (11, .bool (decide (s320.1 < (x173.length : Int))))] w324 (by kernel_rfl) ?_
    refine W_nil ?_
    refine N_then ?_
    rcases gx_bif hm with ⟨hc337, hm⟩ | ⟨hc337, hm⟩
    · refine G_cond_t (b := (decide (s320.1 < (x173.length : Int)))) hc337 (by kernel_rfl) ?_
      refine G_skip ?_
      refine N_then ?_
      refine G_seq ?_
      refine G_block ?_
      refine G_region ?_
      refine W_run 4 [(0, .slice p175 x173.length c176), (3, .slice p186 s320.2.length c187), (4, .int .i64 s320.1), (14, .slice p186 s320.2.length c187), (15, .int .i64 s320.1), (16, .slice p175 x173.length c176), (17, .int .i64 s320.1)] w324 (by kernel_rfl) ?_
      obtain ⟨y338, hy338, hm⟩ := gx_bind hm
      obtain ⟨zs339, hz340, hr341, hi342⟩ := id h177
      obtain ⟨g343, hg344⟩ := gxIdx_fst hz340 hy338
      refine W_val (elemP p175 (s320.1.toNat * 3)) w324 (by kernel_rfl) (E_index (E := deepBalloon.E) _ _ _ x173.length c176 .i64 s320.1 3 (y := (y338, g343)) rfl (by kernel_rfl) (by kernel_rfl) (by kernel_rfl) (hr341.mem0 M325) (len_fst hz340) hg344) ?_
      refine W_val (.agg #[.int .i64 y338.Guest, .int .i64 y338.Goal, .slice ((g343 0).1) y338.Gave.length ((g343 0).2)]) w324 (by kernel_rfl) (E_loadE (E := deepBalloon.E) _ _ true 3 s320.1 0 (s320.1.toNat * 3) (y338, g343) (.agg #[.int .i64 y338.Guest, .int .i64 y338.Goal, .slice ((g343 0).1) y338.Gave.length ((g343 0).2)]) rfl (by kernel_rfl) (by kernel_rfl) (by kernel_rfl) (hr341.mem0 M325) hg344 rfl) ?_
      obtain ⟨r346, hr346, hm⟩ := gx_bind hm
      refine W_call 48 #[.agg #[.int .i64 y338.Guest, .int .i64 y338.Goal, .slice ((g343 0).1) y338.Gave.length ((g343 0).2)]] (by kernel_rfl) (by kernel_rfl) ?_
      refine (c_l_toBalloon w324 y338 ((g343 0).1) ((g343 0).2) ((hi342.mem0 M325).at_ hg344 0 ⟨Int, Gx.encI, y338.Gave, (g343 0).1, (g343 0).2⟩ (by kernel_rfl)) hr346).mono ?_
      rintro e_ w352 ⟨p348, c349, sg350, rfl, ho351, K353⟩
      have M354 := M325.call K353
      refine ⟨_, rfl, ?_⟩
      obtain ⟨y355, hy355, hm⟩ := gx_bind hm
      obtain ⟨zs356, hz357, hr358, hi359⟩ := id ho332
      obtain ⟨g360, hg361⟩ := gxIdx_fst hz357 hy355
      refine W_val (elemP p186 (s320.1.toNat * 3)) w352 (by kernel_rfl) (E_index (E := deepBalloon.E) _ _ _ s320.2.length c187 .i64 s320.1 3 (y := (y355, g360)) rfl (by kernel_rfl) (by kernel_rfl) (by kernel_rfl) (hr358.rd M354 0 (by kernel_rfl)) (len_fst hz357) hg361) ?_
      obtain ⟨sa363, sb364, sc365, hs366, hb367, hp368⟩ := hi359.lens (gxIdx_spec hg361).2
      have M369 := M354.cut 1 (sa := sa363) (sb := sb364) (sc := sc365) hs366 (by kernel_rfl)
      refine W_storeE (E := deepBalloon.E) _ _ _ true 3 s320.1.toNat 0 (s320.1.toNat * 3) (y355, g360) (r346, (plOf [(p348, c349)])) (.agg #[.int .i64 r346.Guest, .int .i64 r346.Goal, .slice p348 r346.Gave.length c349]) 0 M369 hr358 (by kernel_rfl) (by kernel_rfl) rfl (by kernel_rfl) (by kernel_rfl) (by kernel_rfl) (by kernel_rfl) (by kernel_rfl) (by kernel_rfl) (by kernel_rfl) (gxIdx_spec hg361).2 rfl ?_
      intro w370 sg372 ho373 M371
      have M374 : Mem [] w w370 [sg372, sa363, sg350, sc365] := M371.pick [0, 1, 2, 4] (by kernel_rfl)
      have M375 : Mem [] w w370 [sg372, (sa363 ++ ((sg350 ++ []) ++ sc365))] := M374.regroup (by simp)
      have ho376 : ownD deepBalloon (s320.2.set s320.1.toNat r346) p186 c187 sg372 (sa363 ++ ((sg350 ++ []) ++ sc365)) := ⟨_, set_fst hz357 s320.1.toNat (r346, (plOf [(p348, c349)])), ho373, (hp368 (r346, (plOf [(p348, c349)])) _ (ownI_cons (i := ⟨Int, Gx.encI, _, _, _⟩) ho351 ownI_nil))⟩
      have hput377 := gxIdx_put r346 (gxIdx_down hz357 hg361)
      refine W_conv 3 (.slice p186 s320.2.length c187) (.slice p186 (s320.2.set s320.1.toNat r346).length c187) (by kernel_rfl) (by rw [@List.length_set _ s320.2 s320.1.toNat r346]) ?_
      refine W_conv 14 (.slice p186 s320.2.length c187) (.slice p186 (s320.2.set s320.1.toNat r346).length c187) (by kernel_rfl) (by rw [@List.length_set _ s320.2 s320.1.toNat r346]) ?_
      refine W_nil ?_
      refine N_block ?_
      refine N_then ?_
      refine G_region ?_
      refine W_run 3 [(0, .slice p175 x173.length c176), (3, .slice p186 (s320.2.set s320.1.toNat r346).length c187), (4, .int .i64 (w64 (s320.1 + 1)))] w370 (by kernel_rfl) ?_
      refine W_nil ?_
      obtain rfl := Option.some.inj hm
      exact N_loop fun a ha => ⟨_, rfl, sg372, (sa363 ++ ((sg350 ++ []) ++ sc365)), ho376, M375.pick [0, 1] (by kernel_rfl), ha.sub (by kernel_rfl)⟩
    refine G_cond_f (b := (decide (s320.1 < (x173.length : Int)))) hc337 (by kernel_rfl) ?_
    refine G_exit ?_
    refine N_then_exit ?_
    refine N_then_exit ?_
    refine N_block_eq ?_
    obtain rfl := Option.some.inj hm
    obtain rfl := hout322 _ rfl
    exact N_meet fun a ha => ⟨sg330, sg331, ho332, M325.pick [0, 1] (by kernel_rfl), ha.sub (by kernel_rfl)⟩
  intro a378 w379 ⟨sg334, sg335, ho336, M380, hS381⟩
  refine N_use hS381 ?_
  have hm := hmo329
  refine N_then ?_
  refine G_seq ?_
  refine G_region ?_
  refine W_run 2 [(2, .slice p186 out327.length c187)] w379 (by kernel_rfl) ?_
  refine W_nil ?_
  refine N_then ?_
  refine G_ret ?_
  obtain rfl := Option.some.inj hm
  refine N_ret [.slice p186 out327.length c187] (RVs_cons (RV_tmp (by kernel_rfl)) RVs_nil) ?_
  exact ⟨p186, c187, sg334, sg335, rfl, ho336, M380.pick [0, 1] (by kernel_rfl)⟩
theorem c_s_l18Find (w : World) (x414 : List Balloon) (p416 : Option Addr) (c417 : Nat) (h418 : rdD deepBalloon w x414 p416 c417) (x419 : Int) {r : Int} (hm : M.s_l18Find x414 x419 = some r) :
    Calls Try.prog 56 #[.slice p416 x414.length c417, .int .i64 x419] w fun e w' => e = .returned (.int .i64 r) ∧ Mem [] w w' [] := by
  unfold M.s_l18Find at hm
  refine C_enter Try.func56 rfl (by kernel_rfl) ?_
  have M0 := Mem.refl [] w
  refine G_seq ?_
  refine G_region ?_
  refine W_run 1 [(0, .slice p416 x414.length c417), (1, .int .i64 x419)] w (by kernel_rfl) ?_
  refine W_nil ?_
  refine N_then ?_
  refine G_seq ?_
  refine G_seq ?_
  refine G_region ?_
  refine W_run 1 [(0, .slice p416 x414.length c417), (1, .int .i64 x419), (5, .int .i64 0)] w (by kernel_rfl) ?_
  refine W_nil ?_
  refine N_then ?_
  obtain ⟨out447, hw448, hmo449⟩ := gx_bind hm
  refine G_meet (fun a w' => ∃ (o450 : Unit), out447 = .inl o450 ∧ Mem [] w w' [] ∧ Sat Try.f56.ntmps [] a) ?_ ?_
  · refine G_block ?_
    refine G_while (σ := Int) (ρ := (Unit) ⊕ (Int)) (fun s440 a w' => Mem [] w w' [] ∧ Sat Try.f56.ntmps [(0, .slice p416 x414.length c417), (1, .int .i64 x419), (5, .int .i64 s440)] a) hw448 (fun a ha => ⟨M0.pick [] (by kernel_rfl), ha.sub (by kernel_rfl)⟩) ?_
    clear hm
    intro s440 x441 hm hout442 a443 w444 ⟨M445, hS446⟩
    refine G_use hS446 ?_
    refine G_seq ?_
    refine G_seq ?_
    refine G_region ?_
    refine W_run 4 [(0, .slice p416 x414.length c417), (1, .int .i64 x419), (5, .int .i64 s440), (9, .bool (decide (s440 < (x414.length : Int))))] w444 (by kernel_rfl) ?_
    refine W_nil ?_
    refine N_then ?_
    rcases gx_bif hm with ⟨hc451, hm⟩ | ⟨hc451, hm⟩
    · refine G_cond_t (b := (decide (s440 < (x414.length : Int)))) hc451 (by kernel_rfl) ?_
      refine G_skip ?_
      refine N_then ?_
      refine G_seq ?_
      refine G_block ?_
      refine G_seq ?_
      refine G_region ?_
      refine W_run 2 [(0, .slice p416 x414.length c417), (1, .int .i64 x419), (5, .int .i64 s440), (12, .slice p416 x414.length c417), (13, .int .i64 s440)] w444 (by kernel_rfl) ?_
      obtain ⟨y452, hy452, hm⟩ := gx_bind hm
      obtain ⟨zs453, hz454, hr455, hi456⟩ := id h418
      obtain ⟨g457, hg458⟩ := gxIdx_fst hz454 hy452
      refine W_val (elemP p416 (s440.toNat * 3)) w444 (by kernel_rfl) (E_index (E := deepBalloon.E) _ _ _ x414.length c417 .i64 s440 3 (y := (y452, g457)) rfl (by kernel_rfl) (by kernel_rfl) (by kernel_rfl) (hr455.mem0 M445) (len_fst hz454) hg458) ?_
      refine W_val (elemP p416 (s440.toNat * 3 + 0)) w444 (by kernel_rfl) (E_fieldE (E := deepBalloon.E) _ _ 0 (s440.toNat * 3) 0 rfl (by kernel_rfl) (by kernel_rfl) (hr455.mem0 M445) hg458) ?_
      refine W_val (.int .i64 y452.Guest) w444 (by kernel_rfl) (E_loadE (E := deepBalloon.E) _ _ false 1 s440 0 (s440.toNat * 3 + 0) (y452, g457) (.int .i64 y452.Guest) rfl (by kernel_rfl) (by kernel_rfl) (by kernel_rfl) (hr455.mem0 M445) hg458 rfl) ?_
      refine W_run 2 [(0, .slice p416 x414.length c417), (1, .int .i64 x419), (5, .int .i64 s440), (18, .bool (y452.Guest == x419))] w444 (by kernel_rfl) ?_
      refine W_nil ?_
      refine N_then ?_
      rcases gx_bif hm with ⟨hc460, hm⟩ | ⟨hc460, hm⟩
      · refine G_cond_t (b := (y452.Guest == x419)) hc460 (by kernel_rfl) ?_
        refine G_seq ?_
        refine G_region ?_
        refine W_run 2 [(4, .int .i64 s440)] w444 (by kernel_rfl) ?_
        refine W_nil ?_
        refine N_then ?_
        refine G_ret ?_
        refine N_block_ret ?_
        refine N_then_ret ?_
        refine N_then_ret ?_
        obtain rfl := Option.some.inj hm
        obtain rfl := hout442 _ rfl
        have hm := hmo449; simp only [Sum.elim_inr] at hm
        refine N_block_ret ?_
        refine N_meet_ret ?_
        refine N_then_ret ?_
        obtain rfl := Option.some.inj hm
        refine N_ret [.int .i64 s440] (RVs_cons (RV_tmp (by kernel_rfl)) RVs_nil) ?_
        exact ⟨rfl, M445.pick [] (by kernel_rfl)⟩
      refine G_cond_f (b := (y452.Guest == x419)) hc460 (by kernel_rfl) ?_
      refine G_skip ?_
      refine N_block ?_
      refine N_then ?_
      refine G_region ?_
      refine W_run 3 [(0, .slice p416 x414.length c417), (1, .int .i64 x419), (5, .int .i64 (w64 (s440 + 1)))] w444 (by kernel_rfl) ?_
      refine W_nil ?_
      obtain rfl := Option.some.inj hm
      exact N_loop fun a ha => ⟨_, rfl, M445.pick [] (by kernel_rfl), ha.sub (by kernel_rfl)⟩
    refine G_cond_f (b := (decide (s440 < (x414.length : Int)))) hc451 (by kernel_rfl) ?_
    refine G_exit ?_
    refine N_then_exit ?_
    refine N_then_exit ?_
    refine N_block_eq ?_
    obtain rfl := Option.some.inj hm
    obtain rfl := hout442 _ rfl
    exact N_meet fun a ha => ⟨_, rfl, M445.pick [] (by kernel_rfl), ha.sub (by kernel_rfl)⟩
  intro a461 w462 ⟨o450, hout_, M463, hS464⟩
  refine N_use hS464 ?_
  subst hout_
  have hm := hmo449; simp only [Sum.elim_inl] at hm
  refine N_then ?_
  refine G_seq ?_
  refine G_region ?_
  refine W_run 1 [(4, .int .i64 (-1))] w462 (by kernel_rfl) ?_
  refine W_nil ?_
  refine N_then ?_
  refine G_ret ?_
  obtain rfl := Option.some.inj hm
  refine N_ret [.int .i64 (-1)] (RVs_cons (RV_tmp (by kernel_rfl)) RVs_nil) ?_
  exact ⟨rfl, M463.pick [] (by kernel_rfl)⟩
theorem c_s_l1In (w : World) (x486 : Int) (x487 : Int) (x488 : Int) {r : Bool} (hm : M.s_l1In x486 x487 x488 = some r) :
    Calls Try.prog 57 #[.int .i64 x486, .int .i64 x487, .int .i64 x488] w fun e w' => e = .returned (.bool r) ∧ Mem [] w w' [] := by
  unfold M.s_l1In at hm
  refine C_enter Try.func57 rfl (by kernel_rfl) ?_
  have M0 := Mem.refl [] w
  refine G_seq ?_
  refine G_region ?_
  refine W_run 1 [(0, .int .i64 x486), (1, .int .i64 x487), (2, .int .i64 x488)] w (by kernel_rfl) ?_
  refine W_nil ?_
  refine N_then ?_
  refine G_seq ?_
  obtain ⟨o490, ho491, hm492⟩ := gx_bind hm
  refine G_meet (fun a w' => Mem [] w w' [] ∧ Sat Try.f57.ntmps [(6, .bool o490)] a) ?_ ?_
  · have hm := ho491
    refine G_region ?_
    refine W_run 4 [(0, .int .i64 x486), (2, .int .i64 x488), (10, .bool (decide (x486 ≥ x487)))] w (by kernel_rfl) ?_
    rcases gx_bif hm with ⟨hc493, hm⟩ | ⟨hc493, hm⟩
    · refine W_known 10 true (by kernel_rfl) hc493 ?_
      refine W_run 5 [(6, .bool (decide (x486 ≤ x488)))] w (by kernel_rfl) ?_
      refine W_nil ?_
      obtain rfl := Option.some.inj hm
      exact N_meet fun a ha => ⟨M0.pick [] (by kernel_rfl), ha.sub (by kernel_rfl)⟩
    refine W_known 10 false (by kernel_rfl) hc493 ?_
    refine W_run 5 [(6, .bool false)] w (by kernel_rfl) ?_
    refine W_nil ?_
    obtain rfl := Option.some.inj hm
    exact N_meet fun a ha => ⟨M0.pick [] (by kernel_rfl), ha.sub (by kernel_rfl)⟩
  intro a496 w494 ⟨M495, hS497⟩
  refine N_use hS497 ?_
  have hm := hm492
  refine N_then ?_
  refine G_ret ?_
  obtain rfl := Option.some.inj hm
  refine N_ret [.bool o490] (RVs_cons (RV_tmp (by kernel_rfl)) RVs_nil) ?_
  exact ⟨rfl, M495.pick [] (by kernel_rfl)⟩
theorem c_s_l2Good (w : World) (x479 : List Int) (p481 : Option Addr) (c482 : Nat) (h483 : rdS Gx.encI w x479 p481 c482) {r : Bool} (hm : M.s_l2Good x479 = some r) :
    Calls Try.prog 79 #[.slice p481 x479.length c482] w fun e w' => e = .returned (.bool r) ∧ Mem [] w w' [] := by
  unfold M.s_l2Good at hm
  refine C_enter Try.func79 rfl (by kernel_rfl) ?_
  have M0 := Mem.refl [] w
  refine G_seq ?_
  refine G_region ?_
  refine W_run 1 [(0, .slice p481 x479.length c482)] w (by kernel_rfl) ?_
  refine W_nil ?_
  refine N_then ?_
  refine G_seq ?_
  refine G_seq ?_
  refine G_region ?_
  refine W_run 1 [(0, .slice p481 x479.length c482), (3, .int .i64 0)] w (by kernel_rfl) ?_
  refine W_nil ?_
  refine N_then ?_
  obtain ⟨out517, hw518, hmo519⟩ := gx_bind hm
  refine G_meet (fun a w' => ∃ (o520 : Unit), out517 = .inl o520 ∧ Mem [] w w' [] ∧ Sat Try.f79.ntmps [(0, .slice p481 x479.length c482)] a) ?_ ?_
  · refine G_block ?_
    refine G_while (σ := Int) (ρ := (Unit) ⊕ (Bool)) (fun s510 a w' => Mem [] w w' [] ∧ Sat Try.f79.ntmps [(0, .slice p481 x479.length c482), (3, .int .i64 s510)] a) hw518 (fun a ha => ⟨M0.pick [] (by kernel_rfl), ha.sub (by kernel_rfl)⟩) ?_
    clear hm
    intro s510 x511 hm hout512 a513 w514 ⟨M515, hS516⟩
    refine G_use hS516 ?_
    refine G_seq ?_
    refine G_seq ?_
    refine G_region ?_
    refine W_run 4 [(0, .slice p481 x479.length c482), (3, .int .i64 s510), (7, .bool (decide (s510 < (x479.length : Int))))] w514 (by kernel_rfl) ?_
    refine W_nil ?_
    refine N_then ?_
    rcases gx_bif hm with ⟨hc521, hm⟩ | ⟨hc521, hm⟩
    · refine G_cond_t (b := (decide (s510 < (x479.length : Int)))) hc521 (by kernel_rfl) ?_
      refine G_skip ?_
      refine N_then ?_
      refine G_seq ?_
      refine G_block ?_
      refine G_seq ?_
      refine G_region ?_
      refine W_run 2 [(0, .slice p481 x479.length c482), (3, .int .i64 s510), (10, .slice p481 x479.length c482), (11, .int .i64 s510)] w514 (by kernel_rfl) ?_
      obtain ⟨y522, hy522, hm⟩ := gx_bind hm
      refine W_val (elemP p481 (s510.toNat * 1)) w514 (by kernel_rfl) (E_index (E := Gx.encI) _ _ _ x479.length c482 .i64 s510 1 (y := y522) rfl (by kernel_rfl) (by kernel_rfl) (by kernel_rfl) (h483.mem0 M515) rfl hy522) ?_
      refine W_val (.int .i64 y522) w514 (by kernel_rfl) (E_loadE (E := Gx.encI) _ _ false 1 s510 0 (s510.toNat * 1) y522 (.int .i64 y522) rfl (by kernel_rfl) (by kernel_rfl) (by kernel_rfl) (h483.mem0 M515) hy522 rfl) ?_
      obtain ⟨r523, hr523, hm⟩ := gx_bind hm
      refine W_call 57 #[.int .i64 y522, .int .i64 0, .int .i64 4] (by kernel_rfl) (by kernel_rfl) ?_
      refine (c_s_l1In w514 y522 0 4 hr523).mono ?_
      rintro e_ w524 ⟨rfl, K525⟩
      have M526 := M515.call0 K525
      refine ⟨_, rfl, ?_⟩
      refine W_run 1 [(0, .slice p481 x479.length c482), (3, .int .i64 s510), (15, .bool (!r523))] w524 (by kernel_rfl) ?_
      refine W_nil ?_
      refine N_then ?_
      rcases gx_bif hm with ⟨hc527, hm⟩ | ⟨hc527, hm⟩
      · refine G_cond_t (b := (!r523)) hc527 (by kernel_rfl) ?_
        refine G_seq ?_
        refine G_region ?_
        refine W_run 1 [(2, .bool false)] w524 (by kernel_rfl) ?_
        refine W_nil ?_
        refine N_then ?_
        refine G_ret ?_
        refine N_block_ret ?_
        refine N_then_ret ?_
        refine N_then_ret ?_
        obtain rfl := Option.some.inj hm
        obtain rfl := hout512 _ rfl
        have hm := hmo519; simp only [Sum.elim_inr] at hm
        refine N_block_ret ?_
        refine N_meet_ret ?_
        refine N_then_ret ?_
        obtain rfl := Option.some.inj hm
        refine N_ret [.bool false] (RVs_cons (RV_tmp (by kernel_rfl)) RVs_nil) ?_
        exact ⟨rfl, M526.pick [] (by kernel_rfl)⟩
      refine G_cond_f (b := (!r523)) hc527 (by kernel_rfl) ?_
      refine G_skip ?_
      refine N_block ?_
      refine N_then ?_
      refine G_region ?_
      refine W_run 3 [(0, .slice p481 x479.length c482), (3, .int .i64 (w64 (s510 + 1)))] w524 (by kernel_rfl) ?_
      refine W_nil ?_
      obtain rfl := Option.some.inj hm
      exact N_loop fun a ha => ⟨_, rfl, M526.pick [] (by kernel_rfl), ha.sub (by kernel_rfl)⟩
    refine G_cond_f (b := (decide (s510 < (x479.length : Int)))) hc521 (by kernel_rfl) ?_
    refine G_exit ?_
    refine N_then_exit ?_
    refine N_then_exit ?_
    refine N_block_eq ?_
    obtain rfl := Option.some.inj hm
    obtain rfl := hout512 _ rfl
    exact N_meet fun a ha => ⟨_, rfl, M515.pick [] (by kernel_rfl), ha.sub (by kernel_rfl)⟩
  intro a528 w529 ⟨o520, hout_, M530, hS531⟩
  refine N_use hS531 ?_
  subst hout_
  have hm := hmo519; simp only [Sum.elim_inl] at hm
  refine N_then ?_
  refine G_seq ?_
  refine G_region ?_
  refine W_run 2 [(17, .int .i64 (x479.length : Int))] w529 (by kernel_rfl) ?_
  obtain ⟨r532, hr532, hm⟩ := gx_bind hm
  refine W_call 57 #[.int .i64 (x479.length : Int), .int .i64 1, .int .i64 16] (by kernel_rfl) (by kernel_rfl) ?_
  refine (c_s_l1In w529 (x479.length : Int) 1 16 hr532).mono ?_
  rintro e_ w533 ⟨rfl, K534⟩
  have M535 := M530.call0 K534
  refine ⟨_, rfl, ?_⟩
  refine W_run 1 [(2, .bool r532)] w533 (by kernel_rfl) ?_
  refine W_nil ?_
  refine N_then ?_
  refine G_ret ?_
  obtain rfl := Option.some.inj hm
  refine N_ret [.bool r532] (RVs_cons (RV_tmp (by kernel_rfl)) RVs_nil) ?_
  exact ⟨rfl, M535.pick [] (by kernel_rfl)⟩
theorem c_s_l1Rising (w : World) (x586 : List Int) (p588 : Option Addr) (c589 : Nat) (h590 : rdS Gx.encI w x586 p588 c589) (x591 : Int) (x592 : Int) {r : Bool} (hm : M.s_l1Rising x586 x591 x592 = some r) :
    Calls Try.prog 80 #[.slice p588 x586.length c589, .int .i64 x591, .int .i64 x592] w fun e w' => e = .returned (.bool r) ∧ Mem [] w w' [] := by
  unfold M.s_l1Rising at hm
  refine C_enter Try.func80 rfl (by kernel_rfl) ?_
  have M0 := Mem.refl [] w
  refine G_seq ?_
  refine G_region ?_
  refine W_run 1 [(0, .slice p588 x586.length c589), (1, .int .i64 x591), (2, .int .i64 x592)] w (by kernel_rfl) ?_
  refine W_nil ?_
  refine N_then ?_
  refine G_seq ?_
  refine G_seq ?_
  refine G_region ?_
  refine W_run 1 [(0, .slice p588 x586.length c589), (1, .int .i64 x591), (2, .int .i64 x592), (7, .int .i64 0)] w (by kernel_rfl) ?_
  refine W_nil ?_
  refine N_then ?_
  obtain ⟨out678, hw679, hmo680⟩ := gx_bind hm
  refine G_meet (fun a w' => ∃ (o681 : Unit), out678 = .inl o681 ∧ Mem [] w w' [] ∧ Sat Try.f80.ntmps [] a) ?_ ?_
  · refine G_block ?_
    refine G_while (σ := Int) (ρ := (Unit) ⊕ (Bool)) (fun s671 a w' => Mem [] w w' [] ∧ Sat Try.f80.ntmps [(0, .slice p588 x586.length c589), (1, .int .i64 x591), (2, .int .i64 x592), (7, .int .i64 s671)] a) hw679 (fun a ha => ⟨M0.pick [] (by kernel_rfl), ha.sub (by kernel_rfl)⟩) ?_
    clear hm
    intro s671 x672 hm hout673 a674 w675 ⟨M676, hS677⟩
    refine G_use hS677 ?_
    refine G_seq ?_
    refine G_seq ?_
    refine G_region ?_
    refine W_run 4 [(0, .slice p588 x586.length c589), (1, .int .i64 x591), (2, .int .i64 x592), (7, .int .i64 s671), (11, .bool (decide (s671 < (x586.length : Int))))] w675 (by kernel_rfl) ?_
    refine W_nil ?_
    refine N_then ?_
    rcases gx_bif hm with ⟨hc682, hm⟩ | ⟨hc682, hm⟩
    · refine G_cond_t (b := (decide (s671 < (x586.length : Int)))) hc682 (by kernel_rfl) ?_
      refine G_skip ?_
      refine N_then ?_
      refine G_seq ?_
      refine G_block ?_
      refine G_seq ?_
      obtain ⟨o698, ho699, hm700⟩ := gx_bind hm
      refine G_meet (fun a w' => Mem [] w w' [] ∧ Sat Try.f80.ntmps [(0, .slice p588 x586.length c589), (1, .int .i64 x591), (2, .int .i64 x592), (7, .int .i64 s671), (37, .bool o698)] a) ?_ ?_
      · have hm := ho699
        refine G_quiet (by kernel_rfl) (by kernel_rfl) M676 ?_
        refine Z_runs [.slice p588 x586.length c589, .int .i64 s671] [(0, .slice p588 x586.length c589), (1, .int .i64 x591), (2, .int .i64 x592), (7, .int .i64 s671), (14, .slice p588 x586.length c589), (15, .int .i64 s671)] (fun w_ => by kernel_rfl) (by kernel_rfl) ?_
        obtain ⟨y701, hy701, hm⟩ := gx_bind hm
        refine Z_val (elemP p588 (s671.toNat * 1)) (by kernel_rfl) (fun w_ M_ => (E_index (E := Gx.encI) _ _ _ x586.length c589 .i64 s671 1 (y := y701) rfl (by kernel_rfl) (by kernel_rfl) (by kernel_rfl) (h590.mem0 M_) rfl hy701)) ?_
        refine Z_val (.int .i64 y701) (by kernel_rfl) (fun w_ M_ => (E_loadE (E := Gx.encI) _ _ false 1 s671 0 (s671.toNat * 1) y701 (.int .i64 y701) rfl (by kernel_rfl) (by kernel_rfl) (by kernel_rfl) (h590.mem0 M_) hy701 rfl)) ?_
        refine Z_runs [.int .i64 x591, .int .i64 x592] [(0, .slice p588 x586.length c589), (1, .int .i64 x591), (2, .int .i64 x592), (7, .int .i64 s671), (17, .int .i64 y701), (18, .int .i64 x591), (19, .int .i64 x592)] (fun w_ => by kernel_rfl) (by kernel_rfl) ?_
        obtain ⟨r702, hr702, hm⟩ := gx_bind hm
        refine Z_call 57 #[.int .i64 y701, .int .i64 x591, .int .i64 x592] (.bool r702) (by kernel_rfl) (fun w_ => by kernel_rfl) (fun w_ M_ => (c_s_l1In w_ y701 x591 x592 hr702).mono fun e w2_ h_ => ⟨h_.1, M_.call0 h_.2⟩) ?_
        refine Z_runs [.bool (!r702), .bool (!r702)] [(0, .slice p588 x586.length c589), (1, .int .i64 x591), (2, .int .i64 x592), (7, .int .i64 s671), (22, .bool (!r702))] (fun w_ => by kernel_rfl) (by kernel_rfl) ?_
        rcases gx_bif hm with ⟨hc706, hm⟩ | ⟨hc706, hm⟩
        · refine Z_known 22 true (by kernel_rfl) hc706 ?_
          refine Z_runs [undef, undef, undef, undef, undef, undef, undef, undef, undef, undef, undef, undef, undef, undef, .bool true] [(0, .slice p588 x586.length c589), (1, .int .i64 x591), (2, .int .i64 x592), (7, .int .i64 s671), (37, .bool true)] (fun w_ => by kernel_rfl) (by kernel_rfl) ?_
          refine Z_end fun w707 M708 => ?_
          obtain rfl := Option.some.inj hm
          exact N_meet fun a ha => ⟨M708.pick [] (by kernel_rfl), ha.sub (by kernel_rfl)⟩
        refine Z_known 22 false (by kernel_rfl) hc706 ?_
        refine Z_runs [.int .i64 s671, .bool (decide (s671 > 0)), .bool (decide (s671 > 0))] [(0, .slice p588 x586.length c589), (1, .int .i64 x591), (2, .int .i64 x592), (7, .int .i64 s671), (22, .bool false), (25, .bool (decide (s671 > 0)))] (fun w_ => by kernel_rfl) (by kernel_rfl) ?_
        rcases gx_bif hm with ⟨hc709, hm⟩ | ⟨hc709, hm⟩
        · refine Z_known 25 true (by kernel_rfl) hc709 ?_
          refine Z_runs [.slice p588 x586.length c589, .int .i64 s671, .int .i64 (w64 (s671 - 1))] [(0, .slice p588 x586.length c589), (1, .int .i64 x591), (2, .int .i64 x592), (7, .int .i64 s671), (22, .bool false), (25, .bool true), (26, .slice p588 x586.length c589), (28, .int .i64 (w64 (s671 - 1)))] (fun w_ => by kernel_rfl) (by kernel_rfl) ?_
          obtain ⟨y710, hy710, hm⟩ := gx_bind hm
          refine Z_val (elemP p588 ((w64 (s671 - 1)).toNat * 1)) (by kernel_rfl) (fun w_ M_ => (E_index (E := Gx.encI) _ _ _ x586.length c589 .i64 (w64 (s671 - 1)) 1 (y := y710) rfl (by kernel_rfl) (by kernel_rfl) (by kernel_rfl) (h590.mem0 M_) rfl hy710)) ?_
          refine Z_val (.int .i64 y710) (by kernel_rfl) (fun w_ M_ => (E_loadE (E := Gx.encI) _ _ false 1 (w64 (s671 - 1)) 0 ((w64 (s671 - 1)).toNat * 1) y710 (.int .i64 y710) rfl (by kernel_rfl) (by kernel_rfl) (by kernel_rfl) (h590.mem0 M_) hy710 rfl)) ?_
          refine Z_runs [.slice p588 x586.length c589, .int .i64 s671] [(0, .slice p588 x586.length c589), (1, .int .i64 x591), (2, .int .i64 x592), (7, .int .i64 s671), (22, .bool false), (25, .bool true), (30, .int .i64 y710), (31, .slice p588 x586.length c589), (32, .int .i64 s671)] (fun w_ => by kernel_rfl) (by kernel_rfl) ?_
          obtain ⟨y711, hy711, hm⟩ := gx_bind hm
          refine Z_val (elemP p588 (s671.toNat * 1)) (by kernel_rfl) (fun w_ M_ => (E_index (E := Gx.encI) _ _ _ x586.length c589 .i64 s671 1 (y := y711) rfl (by kernel_rfl) (by kernel_rfl) (by kernel_rfl) (h590.mem0 M_) rfl hy711)) ?_
          refine Z_val (.int .i64 y711) (by kernel_rfl) (fun w_ M_ => (E_loadE (E := Gx.encI) _ _ false 1 s671 0 (s671.toNat * 1) y711 (.int .i64 y711) rfl (by kernel_rfl) (by kernel_rfl) (by kernel_rfl) (h590.mem0 M_) hy711 rfl)) ?_
          refine Z_runs [.bool (decide (y710 ≥ y711)), .bool (decide (y710 ≥ y711)), .bool (decide (y710 ≥ y711))] [(0, .slice p588 x586.length c589), (1, .int .i64 x591), (2, .int .i64 x592), (7, .int .i64 s671), (37, .bool (decide (y710 ≥ y711)))] (fun w_ => by kernel_rfl) (by kernel_rfl) ?_
          refine Z_end fun w712 M713 => ?_
          obtain rfl := Option.some.inj hm
          exact N_meet fun a ha => ⟨M713.pick [] (by kernel_rfl), ha.sub (by kernel_rfl)⟩
        refine Z_known 25 false (by kernel_rfl) hc709 ?_
        refine Z_runs [undef, undef, undef, undef, undef, undef, undef, undef, undef, undef, .bool false, .bool false] [(0, .slice p588 x586.length c589), (1, .int .i64 x591), (2, .int .i64 x592), (7, .int .i64 s671), (37, .bool false)] (fun w_ => by kernel_rfl) (by kernel_rfl) ?_
        refine Z_end fun w714 M715 => ?_
        obtain rfl := Option.some.inj hm
        exact N_meet fun a ha => ⟨M715.pick [] (by kernel_rfl), ha.sub (by kernel_rfl)⟩
      intro a718 w716 ⟨M717, hS719⟩
      refine N_use hS719 ?_
      have hm := hm700
      refine N_then ?_
      rcases gx_bif hm with ⟨hc720, hm⟩ | ⟨hc720, hm⟩
      · refine G_cond_t (b := o698) hc720 (by kernel_rfl) ?_
        refine G_seq ?_
        refine G_region ?_
        refine W_run 1 [(6, .bool false)] w716 (by kernel_rfl) ?_
        refine W_nil ?_
        refine N_then ?_
        refine G_ret ?_
        refine N_block_ret ?_
        refine N_then_ret ?_
        refine N_then_ret ?_
        obtain rfl := Option.some.inj hm
        obtain rfl := hout673 _ rfl
        have hm := hmo680; simp only [Sum.elim_inr] at hm
        refine N_block_ret ?_
        refine N_meet_ret ?_
        refine N_then_ret ?_
        obtain rfl := Option.some.inj hm
        refine N_ret [.bool false] (RVs_cons (RV_tmp (by kernel_rfl)) RVs_nil) ?_
        exact ⟨rfl, M717.pick [] (by kernel_rfl)⟩
      refine G_cond_f (b := o698) hc720 (by kernel_rfl) ?_
      refine G_skip ?_
      refine N_block ?_
      refine N_then ?_
      refine G_region ?_
      refine W_run 3 [(0, .slice p588 x586.length c589), (1, .int .i64 x591), (2, .int .i64 x592), (7, .int .i64 (w64 (s671 + 1)))] w716 (by kernel_rfl) ?_
      refine W_nil ?_
      obtain rfl := Option.some.inj hm
      exact N_loop fun a ha => ⟨_, rfl, M717.pick [] (by kernel_rfl), ha.sub (by kernel_rfl)⟩
    refine G_cond_f (b := (decide (s671 < (x586.length : Int)))) hc682 (by kernel_rfl) ?_
    refine G_exit ?_
    refine N_then_exit ?_
    refine N_then_exit ?_
    refine N_block_eq ?_
    obtain rfl := Option.some.inj hm
    obtain rfl := hout673 _ rfl
    exact N_meet fun a ha => ⟨_, rfl, M676.pick [] (by kernel_rfl), ha.sub (by kernel_rfl)⟩
  intro a721 w722 ⟨o681, hout_, M723, hS724⟩
  refine N_use hS724 ?_
  subst hout_
  have hm := hmo680; simp only [Sum.elim_inl] at hm
  refine N_then ?_
  refine G_seq ?_
  refine G_region ?_
  refine W_run 1 [(6, .bool true)] w722 (by kernel_rfl) ?_
  refine W_nil ?_
  refine N_then ?_
  refine G_ret ?_
  obtain rfl := Option.some.inj hm
  refine N_ret [.bool true] (RVs_cons (RV_tmp (by kernel_rfl)) RVs_nil) ?_
  exact ⟨rfl, M723.pick [] (by kernel_rfl)⟩
theorem c_s_l1Has (w : World) (x784 : List Int) (p786 : Option Addr) (c787 : Nat) (h788 : rdS Gx.encI w x784 p786 c787) (x789 : Int) {r : Bool} (hm : M.s_l1Has x784 x789 = some r) :
    Calls Try.prog 81 #[.slice p786 x784.length c787, .int .i64 x789] w fun e w' => e = .returned (.bool r) ∧ Mem [] w w' [] := by
  unfold M.s_l1Has at hm
  refine C_enter Try.func81 rfl (by kernel_rfl) ?_
  have M0 := Mem.refl [] w
  refine G_seq ?_
  refine G_region ?_
  refine W_run 1 [(0, .slice p786 x784.length c787), (1, .int .i64 x789)] w (by kernel_rfl) ?_
  refine W_nil ?_
  refine N_then ?_
  refine G_seq ?_
  refine G_seq ?_
  refine G_region ?_
  refine W_run 1 [(0, .slice p786 x784.length c787), (1, .int .i64 x789), (5, .int .i64 0)] w (by kernel_rfl) ?_
  refine W_nil ?_
  refine N_then ?_
  obtain ⟨out803, hw804, hmo805⟩ := gx_bind hm
  refine G_meet (fun a w' => ∃ (o806 : Unit), out803 = .inl o806 ∧ Mem [] w w' [] ∧ Sat Try.f81.ntmps [] a) ?_ ?_
  · refine G_block ?_
    refine G_while (σ := Int) (ρ := (Unit) ⊕ (Bool)) (fun s796 a w' => Mem [] w w' [] ∧ Sat Try.f81.ntmps [(0, .slice p786 x784.length c787), (1, .int .i64 x789), (5, .int .i64 s796)] a) hw804 (fun a ha => ⟨M0.pick [] (by kernel_rfl), ha.sub (by kernel_rfl)⟩) ?_
    clear hm
    intro s796 x797 hm hout798 a799 w800 ⟨M801, hS802⟩
    refine G_use hS802 ?_
    refine G_seq ?_
    refine G_seq ?_
    refine G_region ?_
    refine W_run 4 [(0, .slice p786 x784.length c787), (1, .int .i64 x789), (5, .int .i64 s796), (9, .bool (decide (s796 < (x784.length : Int))))] w800 (by kernel_rfl) ?_
    refine W_nil ?_
    refine N_then ?_
    rcases gx_bif hm with ⟨hc807, hm⟩ | ⟨hc807, hm⟩
    · refine G_cond_t (b := (decide (s796 < (x784.length : Int)))) hc807 (by kernel_rfl) ?_
      refine G_skip ?_
      refine N_then ?_
      refine G_seq ?_
      refine G_block ?_
      refine G_seq ?_
      refine G_region ?_
      refine W_run 2 [(0, .slice p786 x784.length c787), (1, .int .i64 x789), (5, .int .i64 s796), (12, .slice p786 x784.length c787), (13, .int .i64 s796)] w800 (by kernel_rfl) ?_
      obtain ⟨y808, hy808, hm⟩ := gx_bind hm
      refine W_val (elemP p786 (s796.toNat * 1)) w800 (by kernel_rfl) (E_index (E := Gx.encI) _ _ _ x784.length c787 .i64 s796 1 (y := y808) rfl (by kernel_rfl) (by kernel_rfl) (by kernel_rfl) (h788.mem0 M801) rfl hy808) ?_
      refine W_val (.int .i64 y808) w800 (by kernel_rfl) (E_loadE (E := Gx.encI) _ _ false 1 s796 0 (s796.toNat * 1) y808 (.int .i64 y808) rfl (by kernel_rfl) (by kernel_rfl) (by kernel_rfl) (h788.mem0 M801) hy808 rfl) ?_
      refine W_run 2 [(0, .slice p786 x784.length c787), (1, .int .i64 x789), (5, .int .i64 s796), (17, .bool (y808 == x789))] w800 (by kernel_rfl) ?_
      refine W_nil ?_
      refine N_then ?_
      rcases gx_bif hm with ⟨hc809, hm⟩ | ⟨hc809, hm⟩
      · refine G_cond_t (b := (y808 == x789)) hc809 (by kernel_rfl) ?_
        refine G_seq ?_
        refine G_region ?_
        refine W_run 1 [(4, .bool true)] w800 (by kernel_rfl) ?_
        refine W_nil ?_
        refine N_then ?_
        refine G_ret ?_
        refine N_block_ret ?_
        refine N_then_ret ?_
        refine N_then_ret ?_
        obtain rfl := Option.some.inj hm
        obtain rfl := hout798 _ rfl
        have hm := hmo805; simp only [Sum.elim_inr] at hm
        refine N_block_ret ?_
        refine N_meet_ret ?_
        refine N_then_ret ?_
        obtain rfl := Option.some.inj hm
        refine N_ret [.bool true] (RVs_cons (RV_tmp (by kernel_rfl)) RVs_nil) ?_
        exact ⟨rfl, M801.pick [] (by kernel_rfl)⟩
      refine G_cond_f (b := (y808 == x789)) hc809 (by kernel_rfl) ?_
      refine G_skip ?_
      refine N_block ?_
      refine N_then ?_
      refine G_region ?_
      refine W_run 3 [(0, .slice p786 x784.length c787), (1, .int .i64 x789), (5, .int .i64 (w64 (s796 + 1)))] w800 (by kernel_rfl) ?_
      refine W_nil ?_
      obtain rfl := Option.some.inj hm
      exact N_loop fun a ha => ⟨_, rfl, M801.pick [] (by kernel_rfl), ha.sub (by kernel_rfl)⟩
    refine G_cond_f (b := (decide (s796 < (x784.length : Int)))) hc807 (by kernel_rfl) ?_
    refine G_exit ?_
    refine N_then_exit ?_
    refine N_then_exit ?_
    refine N_block_eq ?_
    obtain rfl := Option.some.inj hm
    obtain rfl := hout798 _ rfl
    exact N_meet fun a ha => ⟨_, rfl, M801.pick [] (by kernel_rfl), ha.sub (by kernel_rfl)⟩
  intro a810 w811 ⟨o806, hout_, M812, hS813⟩
  refine N_use hS813 ?_
  subst hout_
  have hm := hmo805; simp only [Sum.elim_inl] at hm
  refine N_then ?_
  refine G_seq ?_
  refine G_region ?_
  refine W_run 1 [(4, .bool false)] w811 (by kernel_rfl) ?_
  refine W_nil ?_
  refine N_then ?_
  refine G_ret ?_
  obtain rfl := Option.some.inj hm
  refine N_ret [.bool false] (RVs_cons (RV_tmp (by kernel_rfl)) RVs_nil) ?_
  exact ⟨rfl, M812.pick [] (by kernel_rfl)⟩
theorem c_s_l18Good (w : World) (x469 : List Int) (p471 : Option Addr) (c472 : Nat) (h473 : rdS Gx.encI w x469 p471 c472) (x474 : List Balloon) (p476 : Option Addr) (c477 : Nat) (h478 : rdD deepBalloon w x474 p476 c477) {r : Bool} (hm : M.s_l18Good x469 x474 = some r) :
    Calls Try.prog 47 #[.slice p471 x469.length c472, .slice p476 x474.length c477] w fun e w' => e = .returned (.bool r) ∧ Mem [] w w' [] := by
  unfold M.s_l18Good at hm
  refine C_enter Try.func47 rfl (by kernel_rfl) ?_
  have M0 := Mem.refl [] w
  refine G_seq ?_
  refine G_region ?_
  refine W_run 1 [(0, .slice p471 x469.length c472), (1, .slice p476 x474.length c477)] w (by kernel_rfl) ?_
  refine W_nil ?_
  refine N_then ?_
  refine G_seq ?_
  refine G_seq ?_
  refine G_region ?_
  refine W_run 1 [(0, .slice p471 x469.length c472), (1, .slice p476 x474.length c477), (9, .slice p471 x469.length c472)] w (by kernel_rfl) ?_
  obtain ⟨r536, hr536, hm⟩ := gx_bind hm
  refine W_call 79 #[.slice p471 x469.length c472] (by kernel_rfl) (by kernel_rfl) ?_
  refine (c_s_l2Good w x469 p471 c472 (h473.mem0 M0) hr536).mono ?_
  rintro e_ w537 ⟨rfl, K538⟩
  have M539 := M0.call0 K538
  refine ⟨_, rfl, ?_⟩
  refine W_run 1 [(0, .slice p471 x469.length c472), (1, .slice p476 x474.length c477), (11, .bool (!r536))] w537 (by kernel_rfl) ?_
  refine W_nil ?_
  refine N_then ?_
  rcases gx_bif hm with ⟨hc540, hm⟩ | ⟨hc540, hm⟩
  · refine G_cond_t (b := (!r536)) hc540 (by kernel_rfl) ?_
    refine G_seq ?_
    refine G_region ?_
    refine W_run 1 [(4, .bool false)] w537 (by kernel_rfl) ?_
    refine W_nil ?_
    refine N_then ?_
    refine G_ret ?_
    refine N_then_ret ?_
    obtain rfl := Option.some.inj hm
    refine N_ret [.bool false] (RVs_cons (RV_tmp (by kernel_rfl)) RVs_nil) ?_
    exact ⟨rfl, M539.pick [] (by kernel_rfl)⟩
  refine G_cond_f (b := (!r536)) hc540 (by kernel_rfl) ?_
  refine G_skip ?_
  refine N_then ?_
  refine G_seq ?_
  refine G_region ?_
  refine W_lit (E := Gx.encI) ([] : List Int) 0 [] 3 M539 (by kernel_rfl) (by kernel_rfl) (by kernel_rfl) (by kernel_rfl) (by kernel_rfl) ?_
  intro p541 c542 sg543 w544 ho545 M546
  refine W_run 1 [(0, .slice p471 x469.length c472), (1, .slice p476 x474.length c477), (5, .slice p541 ([] : List Int).length c542)] w544 (by kernel_rfl) ?_
  refine W_nil ?_
  refine N_then ?_
  refine G_seq ?_
  refine G_seq ?_
  refine G_region ?_
  refine W_run 1 [(0, .slice p471 x469.length c472), (1, .slice p476 x474.length c477), (5, .slice p541 ([] : List Int).length c542), (6, .int .i64 0)] w544 (by kernel_rfl) ?_
  refine W_nil ?_
  refine N_then ?_
  obtain ⟨out1109, hw1110, hmo1111⟩ := gx_bind hm
  refine G_meet (fun a w' => ∃ (o1117 : Unit), out1109 = .inl o1117 ∧ Mem [] w w' [] ∧ Sat Try.f47.ntmps [] a) ?_ ?_
  · refine G_block ?_
    refine G_while (σ := List Int × Int) (ρ := (Unit) ⊕ (Bool)) (fun s1102 a w' => ∃ (p1112 : Option Addr), ∃ (c1113 : Nat), ∃ (sg1114 : Seg), ownS Gx.encI s1102.1 p1112 c1113 sg1114 ∧ Mem [] w w' [sg1114] ∧ Sat Try.f47.ntmps [(0, .slice p471 x469.length c472), (1, .slice p476 x474.length c477), (5, .slice p1112 s1102.1.length c1113), (6, .int .i64 s1102.2)] a) hw1110 (fun a ha => ⟨p541, c542, sg543, ho545, M546.pick [0] (by kernel_rfl), ha.sub (by kernel_rfl)⟩) ?_
    clear hm
    intro s1102 x1103 hm hout1104 a1105 w1106 ⟨p1112, c1113, sg1114, ho1115, M1107, hS1108⟩
    refine G_use hS1108 ?_
    refine G_seq ?_
    refine G_seq ?_
    refine G_region ?_
    refine W_run 4 [(0, .slice p471 x469.length c472), (1, .slice p476 x474.length c477), (5, .slice p1112 s1102.1.length c1113), (6, .int .i64 s1102.2), (16, .bool (decide (s1102.2 < (x474.length : Int))))] w1106 (by kernel_rfl) ?_
    refine W_nil ?_
    refine N_then ?_
    rcases gx_bif hm with ⟨hc1118, hm⟩ | ⟨hc1118, hm⟩
    · refine G_cond_t (b := (decide (s1102.2 < (x474.length : Int)))) hc1118 (by kernel_rfl) ?_
      refine G_skip ?_
      refine N_then ?_
      refine G_seq ?_
      refine G_block ?_
      refine G_seq ?_
      refine G_region ?_
      refine W_run 2 [(0, .slice p471 x469.length c472), (1, .slice p476 x474.length c477), (5, .slice p1112 s1102.1.length c1113), (6, .int .i64 s1102.2), (19, .slice p476 x474.length c477), (20, .int .i64 s1102.2)] w1106 (by kernel_rfl) ?_
      obtain ⟨y1119, hy1119, hm⟩ := gx_bind hm
      obtain ⟨zs1120, hz1121, hr1122, hi1123⟩ := id h478
      obtain ⟨g1124, hg1125⟩ := gxIdx_fst hz1121 hy1119
      refine W_val (elemP p476 (s1102.2.toNat * 3)) w1106 (by kernel_rfl) (E_index (E := deepBalloon.E) _ _ _ x474.length c477 .i64 s1102.2 3 (y := (y1119, g1124)) rfl (by kernel_rfl) (by kernel_rfl) (by kernel_rfl) (hr1122.mem0 M1107) (len_fst hz1121) hg1125) ?_
      refine W_val (.agg #[.int .i64 y1119.Guest, .int .i64 y1119.Goal, .slice ((g1124 0).1) y1119.Gave.length ((g1124 0).2)]) w1106 (by kernel_rfl) (E_loadE (E := deepBalloon.E) _ _ true 3 s1102.2 0 (s1102.2.toNat * 3) (y1119, g1124) (.agg #[.int .i64 y1119.Guest, .int .i64 y1119.Goal, .slice ((g1124 0).1) y1119.Gave.length ((g1124 0).2)]) rfl (by kernel_rfl) (by kernel_rfl) (by kernel_rfl) (hr1122.mem0 M1107) hg1125 rfl) ?_
      refine W_new (fun b => .pointer (some ⟨b, 0, none⟩)) (.cells ⟨[.int .i64 0, .int .i64 0, .slice none 0 0]⟩ 50 (0, 0)) M1107 rfl (by kernel_rfl) (by kernel_rfl) ?_
      intro b1129 w1130 M1131
      refine W_store _ _ _ true 3 b1129 0 [.int .i64 0, .int .i64 0, .slice none 0 0] 50 (.agg #[.int .i64 y1119.Guest, .int .i64 y1119.Goal, .slice ((g1124 0).1) y1119.Gave.length ((g1124 0).2)]) 1 [.int .i64 y1119.Guest, .int .i64 y1119.Goal, .slice ((g1124 0).1) y1119.Gave.length ((g1124 0).2)] M1131 (by kernel_rfl) rfl (by kernel_rfl) (by kernel_rfl) (by kernel_rfl) (by kernel_rfl) (by kernel_rfl) (by kernel_rfl) (by kernel_rfl) (by kernel_rfl) ?_
      intro w1132 M1133
      refine W_nil ?_
      refine N_then ?_
      refine G_seq ?_
      refine G_seq ?_
      obtain ⟨o1168, ho1169, hm1170⟩ := gx_bind hm
      refine G_meet (fun a w' => Mem [] w w' [sg1114, [(b1129, .cells ⟨[.int .i64 y1119.Guest, .int .i64 y1119.Goal, .slice ((g1124 0).1) y1119.Gave.length ((g1124 0).2)]⟩ 50 (0, 0))]] ∧ Sat Try.f47.ntmps [(0, .slice p471 x469.length c472), (1, .slice p476 x474.length c477), (5, .slice p1112 s1102.1.length c1113), (6, .int .i64 s1102.2), (7, .pointer (some ⟨b1129, 0, none⟩)), (56, .bool o1168)] a) ?_ ?_
      · have hm := ho1169
        refine G_quiet (by kernel_rfl) (by kernel_rfl) M1133 ?_
        refine Z_runs [.pointer (some ⟨b1129, 0, none⟩)] [(0, .slice p471 x469.length c472), (1, .slice p476 x474.length c477), (5, .slice p1112 s1102.1.length c1113), (6, .int .i64 s1102.2), (7, .pointer (some ⟨b1129, 0, none⟩)), (23, .pointer (some ⟨b1129, 0, none⟩))] (fun w_ => by kernel_rfl) (by kernel_rfl) ?_
        refine Z_val (.int .i64 y1119.Guest) (by kernel_rfl) (fun w_ M_ => (E_load (e := 50) (fr := (0, 0)) _ _ false 1 b1129 0 [.int .i64 y1119.Guest, .int .i64 y1119.Goal, .slice ((g1124 0).1) y1119.Gave.length ((g1124 0).2)] (.int .i64 y1119.Guest) rfl (by kernel_rfl) (by kernel_rfl) (by kernel_rfl) (M_.blk 1 (b := b1129) (o := .cells ⟨[.int .i64 y1119.Guest, .int .i64 y1119.Goal, .slice ((g1124 0).1) y1119.Gave.length ((g1124 0).2)]⟩ 50 (0, 0)) (by kernel_rfl)))) ?_
        obtain ⟨r1171, hr1171, hm⟩ := gx_bind hm
        refine Z_call 57 #[.int .i64 y1119.Guest, .int .i64 1, .int .i64 4] (.bool r1171) (by kernel_rfl) (fun w_ => by kernel_rfl) (fun w_ M_ => (c_s_l1In w_ y1119.Guest 1 4 hr1171).mono fun e w2_ h_ => ⟨h_.1, M_.call0 h_.2⟩) ?_
        refine Z_runs [.bool (!r1171), .bool (!r1171)] [(0, .slice p471 x469.length c472), (1, .slice p476 x474.length c477), (5, .slice p1112 s1102.1.length c1113), (6, .int .i64 s1102.2), (7, .pointer (some ⟨b1129, 0, none⟩)), (27, .bool (!r1171))] (fun w_ => by kernel_rfl) (by kernel_rfl) ?_
        rcases gx_bif hm with ⟨hc1175, hm⟩ | ⟨hc1175, hm⟩
        · refine Z_known 27 true (by kernel_rfl) hc1175 ?_
          refine Z_runs [undef, undef, undef, undef, .bool true, .bool true, undef, undef, undef, undef, undef, undef, undef, undef, undef, undef, undef, undef, undef, .bool true, .bool true, undef, undef, undef, undef, undef, undef, undef, .bool true] [(0, .slice p471 x469.length c472), (1, .slice p476 x474.length c477), (5, .slice p1112 s1102.1.length c1113), (6, .int .i64 s1102.2), (7, .pointer (some ⟨b1129, 0, none⟩)), (56, .bool true)] (fun w_ => by kernel_rfl) (by kernel_rfl) ?_
          refine Z_end fun w1176 M1177 => ?_
          obtain rfl := Option.some.inj hm
          exact N_meet fun a ha => ⟨M1177.pick [0, 1] (by kernel_rfl), ha.sub (by kernel_rfl)⟩
        refine Z_known 27 false (by kernel_rfl) hc1175 ?_
        refine Z_runs [.pointer (some ⟨b1129, 1, none⟩)] [(0, .slice p471 x469.length c472), (1, .slice p476 x474.length c477), (5, .slice p1112 s1102.1.length c1113), (6, .int .i64 s1102.2), (7, .pointer (some ⟨b1129, 0, none⟩)), (27, .bool false), (28, .pointer (some ⟨b1129, 1, none⟩))] (fun w_ => by kernel_rfl) (by kernel_rfl) ?_
        refine Z_val (.int .i64 y1119.Goal) (by kernel_rfl) (fun w_ M_ => (E_load (e := 50) (fr := (0, 0)) _ _ false 1 b1129 1 [.int .i64 y1119.Guest, .int .i64 y1119.Goal, .slice ((g1124 0).1) y1119.Gave.length ((g1124 0).2)] (.int .i64 y1119.Goal) rfl (by kernel_rfl) (by kernel_rfl) (by kernel_rfl) (M_.blk 1 (b := b1129) (o := .cells ⟨[.int .i64 y1119.Guest, .int .i64 y1119.Goal, .slice ((g1124 0).1) y1119.Gave.length ((g1124 0).2)]⟩ 50 (0, 0)) (by kernel_rfl)))) ?_
        obtain ⟨r1178, hr1178, hm⟩ := gx_bind hm
        refine Z_call 57 #[.int .i64 y1119.Goal, .int .i64 0, .int .i64 16] (.bool r1178) (by kernel_rfl) (fun w_ => by kernel_rfl) (fun w_ M_ => (c_s_l1In w_ y1119.Goal 0 16 hr1178).mono fun e w2_ h_ => ⟨h_.1, M_.call0 h_.2⟩) ?_
        refine Z_runs [.bool (!r1178), .bool (!r1178), .bool (!r1178)] [(0, .slice p471 x469.length c472), (1, .slice p476 x474.length c477), (5, .slice p1112 s1102.1.length c1113), (6, .int .i64 s1102.2), (7, .pointer (some ⟨b1129, 0, none⟩)), (33, .bool (!r1178))] (fun w_ => by kernel_rfl) (by kernel_rfl) ?_
        rcases gx_bif hm with ⟨hc1182, hm⟩ | ⟨hc1182, hm⟩
        · refine Z_known 33 true (by kernel_rfl) hc1182 ?_
          refine Z_runs [undef, undef, undef, undef, undef, undef, undef, undef, undef, undef, undef, undef, undef, .bool true, .bool true, undef, undef, undef, undef, undef, undef, undef, .bool true] [(0, .slice p471 x469.length c472), (1, .slice p476 x474.length c477), (5, .slice p1112 s1102.1.length c1113), (6, .int .i64 s1102.2), (7, .pointer (some ⟨b1129, 0, none⟩)), (56, .bool true)] (fun w_ => by kernel_rfl) (by kernel_rfl) ?_
          refine Z_end fun w1183 M1184 => ?_
          obtain rfl := Option.some.inj hm
          exact N_meet fun a ha => ⟨M1184.pick [0, 1] (by kernel_rfl), ha.sub (by kernel_rfl)⟩
        refine Z_known 33 false (by kernel_rfl) hc1182 ?_
        refine Z_runs [.int .i64 s1102.2, .bool (decide (s1102.2 > 0)), .bool (decide (s1102.2 > 0))] [(0, .slice p471 x469.length c472), (1, .slice p476 x474.length c477), (5, .slice p1112 s1102.1.length c1113), (6, .int .i64 s1102.2), (7, .pointer (some ⟨b1129, 0, none⟩)), (33, .bool false), (36, .bool (decide (s1102.2 > 0)))] (fun w_ => by kernel_rfl) (by kernel_rfl) ?_
        rcases gx_bif hm with ⟨hc1185, hm⟩ | ⟨hc1185, hm⟩
        · refine Z_known 36 true (by kernel_rfl) hc1185 ?_
          refine Z_runs [.slice p476 x474.length c477, .int .i64 s1102.2, .int .i64 (w64 (s1102.2 - 1))] [(0, .slice p471 x469.length c472), (1, .slice p476 x474.length c477), (5, .slice p1112 s1102.1.length c1113), (6, .int .i64 s1102.2), (7, .pointer (some ⟨b1129, 0, none⟩)), (33, .bool false), (36, .bool true), (37, .slice p476 x474.length c477), (39, .int .i64 (w64 (s1102.2 - 1)))] (fun w_ => by kernel_rfl) (by kernel_rfl) ?_
          obtain ⟨y1186, hy1186, hm⟩ := gx_bind hm
          obtain ⟨g1187, hg1188⟩ := gxIdx_fst hz1121 hy1186
          refine Z_val (elemP p476 ((w64 (s1102.2 - 1)).toNat * 3)) (by kernel_rfl) (fun w_ M_ => (E_index (E := deepBalloon.E) _ _ _ x474.length c477 .i64 (w64 (s1102.2 - 1)) 3 (y := (y1186, g1187)) rfl (by kernel_rfl) (by kernel_rfl) (by kernel_rfl) (hr1122.mem0 M_) (len_fst hz1121) hg1188)) ?_
          refine Z_val (elemP p476 ((w64 (s1102.2 - 1)).toNat * 3 + 0)) (by kernel_rfl) (fun w_ M_ => (E_fieldE (E := deepBalloon.E) _ _ 0 ((w64 (s1102.2 - 1)).toNat * 3) 0 rfl (by kernel_rfl) (by kernel_rfl) (hr1122.mem0 M_) hg1188)) ?_
          refine Z_val (.int .i64 y1186.Guest) (by kernel_rfl) (fun w_ M_ => (E_loadE (E := deepBalloon.E) _ _ false 1 (w64 (s1102.2 - 1)) 0 ((w64 (s1102.2 - 1)).toNat * 3 + 0) (y1186, g1187) (.int .i64 y1186.Guest) rfl (by kernel_rfl) (by kernel_rfl) (by kernel_rfl) (hr1122.mem0 M_) hg1188 rfl)) ?_
          refine Z_runs [.pointer (some ⟨b1129, 0, none⟩)] [(0, .slice p471 x469.length c472), (1, .slice p476 x474.length c477), (5, .slice p1112 s1102.1.length c1113), (6, .int .i64 s1102.2), (7, .pointer (some ⟨b1129, 0, none⟩)), (33, .bool false), (36, .bool true), (42, .int .i64 y1186.Guest), (43, .pointer (some ⟨b1129, 0, none⟩))] (fun w_ => by kernel_rfl) (by kernel_rfl) ?_
          refine Z_val (.int .i64 y1119.Guest) (by kernel_rfl) (fun w_ M_ => (E_load (e := 50) (fr := (0, 0)) _ _ false 1 b1129 0 [.int .i64 y1119.Guest, .int .i64 y1119.Goal, .slice ((g1124 0).1) y1119.Gave.length ((g1124 0).2)] (.int .i64 y1119.Guest) rfl (by kernel_rfl) (by kernel_rfl) (by kernel_rfl) (M_.blk 1 (b := b1129) (o := .cells ⟨[.int .i64 y1119.Guest, .int .i64 y1119.Goal, .slice ((g1124 0).1) y1119.Gave.length ((g1124 0).2)]⟩ 50 (0, 0)) (by kernel_rfl)))) ?_
          refine Z_runs [.bool (decide (y1186.Guest ≥ y1119.Guest)), .bool (decide (y1186.Guest ≥ y1119.Guest)), .bool (decide (y1186.Guest ≥ y1119.Guest)), .bool (decide (y1186.Guest ≥ y1119.Guest))] [(0, .slice p471 x469.length c472), (1, .slice p476 x474.length c477), (5, .slice p1112 s1102.1.length c1113), (6, .int .i64 s1102.2), (7, .pointer (some ⟨b1129, 0, none⟩)), (48, .bool (decide (y1186.Guest ≥ y1119.Guest)))] (fun w_ => by kernel_rfl) (by kernel_rfl) ?_
          rcases gx_bif hm with ⟨hc1190, hm⟩ | ⟨hc1190, hm⟩
          · refine Z_known 48 true (by kernel_rfl) hc1190 ?_
            refine Z_runs [undef, undef, undef, undef, undef, undef, undef, .bool true] [(0, .slice p471 x469.length c472), (1, .slice p476 x474.length c477), (5, .slice p1112 s1102.1.length c1113), (6, .int .i64 s1102.2), (7, .pointer (some ⟨b1129, 0, none⟩)), (56, .bool true)] (fun w_ => by kernel_rfl) (by kernel_rfl) ?_
            refine Z_end fun w1191 M1192 => ?_
            obtain rfl := Option.some.inj hm
            exact N_meet fun a ha => ⟨M1192.pick [0, 1] (by kernel_rfl), ha.sub (by kernel_rfl)⟩
          refine Z_known 48 false (by kernel_rfl) hc1190 ?_
          refine Z_runs [.pointer (some ⟨b1129, 2, none⟩)] [(0, .slice p471 x469.length c472), (1, .slice p476 x474.length c477), (5, .slice p1112 s1102.1.length c1113), (6, .int .i64 s1102.2), (7, .pointer (some ⟨b1129, 0, none⟩)), (48, .bool false), (49, .pointer (some ⟨b1129, 2, none⟩))] (fun w_ => by kernel_rfl) (by kernel_rfl) ?_
          refine Z_val (.slice ((g1124 0).1) y1119.Gave.length ((g1124 0).2)) (by kernel_rfl) (fun w_ M_ => (E_load (e := 50) (fr := (0, 0)) _ _ false 1 b1129 2 [.int .i64 y1119.Guest, .int .i64 y1119.Goal, .slice ((g1124 0).1) y1119.Gave.length ((g1124 0).2)] (.slice ((g1124 0).1) y1119.Gave.length ((g1124 0).2)) rfl (by kernel_rfl) (by kernel_rfl) (by kernel_rfl) (M_.blk 1 (b := b1129) (o := .cells ⟨[.int .i64 y1119.Guest, .int .i64 y1119.Goal, .slice ((g1124 0).1) y1119.Gave.length ((g1124 0).2)]⟩ 50 (0, 0)) (by kernel_rfl)))) ?_
          refine Z_runs [.slice p471 x469.length c472, .int .i64 (x469.length : Int), .int .i64 (w64 ((x469.length : Int) - 1))] [(0, .slice p471 x469.length c472), (1, .slice p476 x474.length c477), (5, .slice p1112 s1102.1.length c1113), (6, .int .i64 s1102.2), (7, .pointer (some ⟨b1129, 0, none⟩)), (48, .bool false), (50, .slice ((g1124 0).1) y1119.Gave.length ((g1124 0).2)), (53, .int .i64 (w64 ((x469.length : Int) - 1)))] (fun w_ => by kernel_rfl) (by kernel_rfl) ?_
          obtain ⟨r1193, hr1193, hm⟩ := gx_bind hm
          refine Z_call 80 #[.slice ((g1124 0).1) y1119.Gave.length ((g1124 0).2), .int .i64 0, .int .i64 (w64 ((x469.length : Int) - 1))] (.bool r1193) (by kernel_rfl) (fun w_ => by kernel_rfl) (fun w_ M_ => (c_s_l1Rising w_ y1119.Gave ((g1124 0).1) ((g1124 0).2) ((hi1123.mem0 M_).at_ hg1125 0 ⟨Int, Gx.encI, y1119.Gave, (g1124 0).1, (g1124 0).2⟩ (by kernel_rfl)) 0 (w64 ((x469.length : Int) - 1)) hr1193).mono fun e w2_ h_ => ⟨h_.1, M_.call0 h_.2⟩) ?_
          refine Z_runs [.bool (!r1193), .bool (!r1193)] [(0, .slice p471 x469.length c472), (1, .slice p476 x474.length c477), (5, .slice p1112 s1102.1.length c1113), (6, .int .i64 s1102.2), (7, .pointer (some ⟨b1129, 0, none⟩)), (56, .bool (!r1193))] (fun w_ => by kernel_rfl) (by kernel_rfl) ?_
          refine Z_end fun w1197 M1198 => ?_
          obtain rfl := Option.some.inj hm
          exact N_meet fun a ha => ⟨M1198.pick [0, 1] (by kernel_rfl), ha.sub (by kernel_rfl)⟩
        refine Z_known 36 false (by kernel_rfl) hc1185 ?_
        refine Z_runs [undef, undef, undef, undef, undef, undef, undef, undef, undef, .bool false, .bool false, .bool false, .pointer (some ⟨b1129, 2, none⟩)] [(0, .slice p471 x469.length c472), (1, .slice p476 x474.length c477), (5, .slice p1112 s1102.1.length c1113), (6, .int .i64 s1102.2), (7, .pointer (some ⟨b1129, 0, none⟩)), (48, .bool false), (49, .pointer (some ⟨b1129, 2, none⟩))] (fun w_ => by kernel_rfl) (by kernel_rfl) ?_
        refine Z_val (.slice ((g1124 0).1) y1119.Gave.length ((g1124 0).2)) (by kernel_rfl) (fun w_ M_ => (E_load (e := 50) (fr := (0, 0)) _ _ false 1 b1129 2 [.int .i64 y1119.Guest, .int .i64 y1119.Goal, .slice ((g1124 0).1) y1119.Gave.length ((g1124 0).2)] (.slice ((g1124 0).1) y1119.Gave.length ((g1124 0).2)) rfl (by kernel_rfl) (by kernel_rfl) (by kernel_rfl) (M_.blk 1 (b := b1129) (o := .cells ⟨[.int .i64 y1119.Guest, .int .i64 y1119.Goal, .slice ((g1124 0).1) y1119.Gave.length ((g1124 0).2)]⟩ 50 (0, 0)) (by kernel_rfl)))) ?_
        refine Z_runs [.slice p471 x469.length c472, .int .i64 (x469.length : Int), .int .i64 (w64 ((x469.length : Int) - 1))] [(0, .slice p471 x469.length c472), (1, .slice p476 x474.length c477), (5, .slice p1112 s1102.1.length c1113), (6, .int .i64 s1102.2), (7, .pointer (some ⟨b1129, 0, none⟩)), (48, .bool false), (50, .slice ((g1124 0).1) y1119.Gave.length ((g1124 0).2)), (53, .int .i64 (w64 ((x469.length : Int) - 1)))] (fun w_ => by kernel_rfl) (by kernel_rfl) ?_
        obtain ⟨r1199, hr1199, hm⟩ := gx_bind hm
        refine Z_call 80 #[.slice ((g1124 0).1) y1119.Gave.length ((g1124 0).2), .int .i64 0, .int .i64 (w64 ((x469.length : Int) - 1))] (.bool r1199) (by kernel_rfl) (fun w_ => by kernel_rfl) (fun w_ M_ => (c_s_l1Rising w_ y1119.Gave ((g1124 0).1) ((g1124 0).2) ((hi1123.mem0 M_).at_ hg1125 0 ⟨Int, Gx.encI, y1119.Gave, (g1124 0).1, (g1124 0).2⟩ (by kernel_rfl)) 0 (w64 ((x469.length : Int) - 1)) hr1199).mono fun e w2_ h_ => ⟨h_.1, M_.call0 h_.2⟩) ?_
        refine Z_runs [.bool (!r1199), .bool (!r1199)] [(0, .slice p471 x469.length c472), (1, .slice p476 x474.length c477), (5, .slice p1112 s1102.1.length c1113), (6, .int .i64 s1102.2), (7, .pointer (some ⟨b1129, 0, none⟩)), (56, .bool (!r1199))] (fun w_ => by kernel_rfl) (by kernel_rfl) ?_
        refine Z_end fun w1203 M1204 => ?_
        obtain rfl := Option.some.inj hm
        exact N_meet fun a ha => ⟨M1204.pick [0, 1] (by kernel_rfl), ha.sub (by kernel_rfl)⟩
      intro a1207 w1205 ⟨M1206, hS1208⟩
      refine N_use hS1208 ?_
      have hm := hm1170
      refine N_then ?_
      rcases gx_bif hm with ⟨hc1209, hm⟩ | ⟨hc1209, hm⟩
      · refine G_cond_t (b := o1168) hc1209 (by kernel_rfl) ?_
        refine G_seq ?_
        refine G_region ?_
        refine W_run 1 [(4, .bool false)] w1205 (by kernel_rfl) ?_
        refine W_nil ?_
        refine N_then ?_
        refine G_ret ?_
        refine N_then_ret ?_
        refine N_block_ret ?_
        refine N_then_ret ?_
        refine N_then_ret ?_
        obtain rfl := Option.some.inj hm
        obtain rfl := hout1104 _ rfl
        have hm := hmo1111; simp only [Sum.elim_inr] at hm
        refine N_block_ret ?_
        refine N_meet_ret ?_
        refine N_then_ret ?_
        obtain rfl := Option.some.inj hm
        refine N_ret [.bool false] (RVs_cons (RV_tmp (by kernel_rfl)) RVs_nil) ?_
        exact ⟨rfl, M1206.pick [] (by kernel_rfl)⟩
      refine G_cond_f (b := o1168) hc1209 (by kernel_rfl) ?_
      refine G_skip ?_
      refine N_then ?_
      refine G_seq ?_
      refine G_seq ?_
      refine G_region ?_
      refine W_run 1 [(0, .slice p471 x469.length c472), (1, .slice p476 x474.length c477), (5, .slice p1112 s1102.1.length c1113), (6, .int .i64 s1102.2), (7, .pointer (some ⟨b1129, 0, none⟩)), (8, .int .i64 0)] w1205 (by kernel_rfl) ?_
      refine W_nil ?_
      refine N_then ?_
      obtain ⟨out1267, hw1268, hmo1269⟩ := gx_bind hm
      refine G_meet (fun a w' => ∃ (o1270 : Unit), out1267 = .inl o1270 ∧ Mem [] w w' [sg1114, [(b1129, .cells ⟨[.int .i64 y1119.Guest, .int .i64 y1119.Goal, .slice ((g1124 0).1) y1119.Gave.length ((g1124 0).2)]⟩ 50 (0, 0))]] ∧ Sat Try.f47.ntmps [(0, .slice p471 x469.length c472), (1, .slice p476 x474.length c477), (5, .slice p1112 s1102.1.length c1113), (6, .int .i64 s1102.2), (7, .pointer (some ⟨b1129, 0, none⟩))] a) ?_ ?_
      · refine G_block ?_
        refine G_while (σ := Int) (ρ := (Unit) ⊕ (Bool)) (fun s1260 a w' => Mem [] w w' [sg1114, [(b1129, .cells ⟨[.int .i64 y1119.Guest, .int .i64 y1119.Goal, .slice ((g1124 0).1) y1119.Gave.length ((g1124 0).2)]⟩ 50 (0, 0))]] ∧ Sat Try.f47.ntmps [(0, .slice p471 x469.length c472), (1, .slice p476 x474.length c477), (5, .slice p1112 s1102.1.length c1113), (6, .int .i64 s1102.2), (7, .pointer (some ⟨b1129, 0, none⟩)), (8, .int .i64 s1260)] a) hw1268 (fun a ha => ⟨M1206.pick [0, 1] (by kernel_rfl), ha.sub (by kernel_rfl)⟩) ?_
        clear hm
        intro s1260 x1261 hm hout1262 a1263 w1264 ⟨M1265, hS1266⟩
        refine G_use hS1266 ?_
        refine G_seq ?_
        refine G_seq ?_
        refine G_region ?_
        refine W_run 2 [(0, .slice p471 x469.length c472), (1, .slice p476 x474.length c477), (5, .slice p1112 s1102.1.length c1113), (6, .int .i64 s1102.2), (7, .pointer (some ⟨b1129, 0, none⟩)), (8, .int .i64 s1260), (57, .int .i64 s1260), (58, .pointer (some ⟨b1129, 2, none⟩))] w1264 (by kernel_rfl) ?_
        refine W_val (.slice ((g1124 0).1) y1119.Gave.length ((g1124 0).2)) w1264 (by kernel_rfl) (E_load (e := 50) (fr := (0, 0)) _ _ false 1 b1129 2 [.int .i64 y1119.Guest, .int .i64 y1119.Goal, .slice ((g1124 0).1) y1119.Gave.length ((g1124 0).2)] (.slice ((g1124 0).1) y1119.Gave.length ((g1124 0).2)) rfl (by kernel_rfl) (by kernel_rfl) (by kernel_rfl) (M1265.blk 1 (b := b1129) (o := .cells ⟨[.int .i64 y1119.Guest, .int .i64 y1119.Goal, .slice ((g1124 0).1) y1119.Gave.length ((g1124 0).2)]⟩ 50 (0, 0)) (by kernel_rfl))) ?_
        refine W_run 2 [(0, .slice p471 x469.length c472), (1, .slice p476 x474.length c477), (5, .slice p1112 s1102.1.length c1113), (6, .int .i64 s1102.2), (7, .pointer (some ⟨b1129, 0, none⟩)), (8, .int .i64 s1260), (61, .bool (decide (s1260 < (y1119.Gave.length : Int))))] w1264 (by kernel_rfl) ?_
        refine W_nil ?_
        refine N_then ?_
        rcases gx_bif hm with ⟨hc1271, hm⟩ | ⟨hc1271, hm⟩
        · refine G_cond_t (b := (decide (s1260 < (y1119.Gave.length : Int)))) hc1271 (by kernel_rfl) ?_
          refine G_skip ?_
          refine N_then ?_
          refine G_seq ?_
          refine G_block ?_
          refine G_seq ?_
          obtain ⟨o1280, ho1281, hm1282⟩ := gx_bind hm
          refine G_meet (fun a w' => Mem [] w w' [sg1114, [(b1129, .cells ⟨[.int .i64 y1119.Guest, .int .i64 y1119.Goal, .slice ((g1124 0).1) y1119.Gave.length ((g1124 0).2)]⟩ 50 (0, 0))]] ∧ Sat Try.f47.ntmps [(0, .slice p471 x469.length c472), (1, .slice p476 x474.length c477), (5, .slice p1112 s1102.1.length c1113), (6, .int .i64 s1102.2), (7, .pointer (some ⟨b1129, 0, none⟩)), (8, .int .i64 s1260), (81, .bool o1280)] a) ?_ ?_
          · have hm := ho1281
            refine G_region ?_
            refine W_run 2 [(0, .slice p471 x469.length c472), (1, .slice p476 x474.length c477), (5, .slice p1112 s1102.1.length c1113), (6, .int .i64 s1102.2), (7, .pointer (some ⟨b1129, 0, none⟩)), (8, .int .i64 s1260), (64, .slice p471 x469.length c472), (65, .pointer (some ⟨b1129, 2, none⟩))] w1264 (by kernel_rfl) ?_
            refine W_val (.slice ((g1124 0).1) y1119.Gave.length ((g1124 0).2)) w1264 (by kernel_rfl) (E_load (e := 50) (fr := (0, 0)) _ _ false 1 b1129 2 [.int .i64 y1119.Guest, .int .i64 y1119.Goal, .slice ((g1124 0).1) y1119.Gave.length ((g1124 0).2)] (.slice ((g1124 0).1) y1119.Gave.length ((g1124 0).2)) rfl (by kernel_rfl) (by kernel_rfl) (by kernel_rfl) (M1265.blk 1 (b := b1129) (o := .cells ⟨[.int .i64 y1119.Guest, .int .i64 y1119.Goal, .slice ((g1124 0).1) y1119.Gave.length ((g1124 0).2)]⟩ 50 (0, 0)) (by kernel_rfl))) ?_
            refine W_run 1 [(0, .slice p471 x469.length c472), (1, .slice p476 x474.length c477), (5, .slice p1112 s1102.1.length c1113), (6, .int .i64 s1102.2), (7, .pointer (some ⟨b1129, 0, none⟩)), (8, .int .i64 s1260), (64, .slice p471 x469.length c472), (66, .slice ((g1124 0).1) y1119.Gave.length ((g1124 0).2)), (67, .int .i64 s1260)] w1264 (by kernel_rfl) ?_
            obtain ⟨y1283, hy1283, hm⟩ := gx_bind hm
            refine W_val (elemP ((g1124 0).1) (s1260.toNat * 1)) w1264 (by kernel_rfl) (E_index (E := Gx.encI) _ _ _ y1119.Gave.length ((g1124 0).2) .i64 s1260 1 (y := y1283) rfl (by kernel_rfl) (by kernel_rfl) (by kernel_rfl) ((hi1123.mem0 M1265).at_ hg1125 0 ⟨Int, Gx.encI, y1119.Gave, (g1124 0).1, (g1124 0).2⟩ (by kernel_rfl)) rfl hy1283) ?_
            refine W_val (.int .i64 y1283) w1264 (by kernel_rfl) (E_loadE (E := Gx.encI) _ _ false 1 s1260 0 (s1260.toNat * 1) y1283 (.int .i64 y1283) rfl (by kernel_rfl) (by kernel_rfl) (by kernel_rfl) ((hi1123.mem0 M1265).at_ hg1125 0 ⟨Int, Gx.encI, y1119.Gave, (g1124 0).1, (g1124 0).2⟩ (by kernel_rfl)) hy1283 rfl) ?_
            obtain ⟨y1284, hy1284, hm⟩ := gx_bind hm
            refine W_val (elemP p471 (y1283.toNat * 1)) w1264 (by kernel_rfl) (E_index (E := Gx.encI) _ _ _ x469.length c472 .i64 y1283 1 (y := y1284) rfl (by kernel_rfl) (by kernel_rfl) (by kernel_rfl) (h473.mem0 M1265) rfl hy1284) ?_
            refine W_val (.int .i64 y1284) w1264 (by kernel_rfl) (E_loadE (E := Gx.encI) _ _ false 1 y1283 0 (y1283.toNat * 1) y1284 (.int .i64 y1284) rfl (by kernel_rfl) (by kernel_rfl) (by kernel_rfl) (h473.mem0 M1265) hy1284 rfl) ?_
            refine W_run 2 [(0, .slice p471 x469.length c472), (1, .slice p476 x474.length c477), (5, .slice p1112 s1102.1.length c1113), (6, .int .i64 s1102.2), (7, .pointer (some ⟨b1129, 0, none⟩)), (8, .int .i64 s1260), (73, .bool (y1284 != 0))] w1264 (by kernel_rfl) ?_
            rcases gx_bif hm with ⟨hc1285, hm⟩ | ⟨hc1285, hm⟩
            · refine W_known 73 true (by kernel_rfl) hc1285 ?_
              refine W_run 8 [(0, .slice p471 x469.length c472), (1, .slice p476 x474.length c477), (5, .slice p1112 s1102.1.length c1113), (6, .int .i64 s1102.2), (7, .pointer (some ⟨b1129, 0, none⟩)), (8, .int .i64 s1260), (81, .bool true)] w1264 (by kernel_rfl) ?_
              refine W_nil ?_
              obtain rfl := Option.some.inj hm
              exact N_meet fun a ha => ⟨M1265.pick [0, 1] (by kernel_rfl), ha.sub (by kernel_rfl)⟩
            refine W_known 73 false (by kernel_rfl) hc1285 ?_
            refine W_run 2 [(0, .slice p471 x469.length c472), (1, .slice p476 x474.length c477), (5, .slice p1112 s1102.1.length c1113), (6, .int .i64 s1102.2), (7, .pointer (some ⟨b1129, 0, none⟩)), (8, .int .i64 s1260), (73, .bool false), (74, .slice p1112 s1102.1.length c1113), (75, .pointer (some ⟨b1129, 2, none⟩))] w1264 (by kernel_rfl) ?_
            refine W_val (.slice ((g1124 0).1) y1119.Gave.length ((g1124 0).2)) w1264 (by kernel_rfl) (E_load (e := 50) (fr := (0, 0)) _ _ false 1 b1129 2 [.int .i64 y1119.Guest, .int .i64 y1119.Goal, .slice ((g1124 0).1) y1119.Gave.length ((g1124 0).2)] (.slice ((g1124 0).1) y1119.Gave.length ((g1124 0).2)) rfl (by kernel_rfl) (by kernel_rfl) (by kernel_rfl) (M1265.blk 1 (b := b1129) (o := .cells ⟨[.int .i64 y1119.Guest, .int .i64 y1119.Goal, .slice ((g1124 0).1) y1119.Gave.length ((g1124 0).2)]⟩ 50 (0, 0)) (by kernel_rfl))) ?_
            refine W_run 1 [(0, .slice p471 x469.length c472), (1, .slice p476 x474.length c477), (5, .slice p1112 s1102.1.length c1113), (6, .int .i64 s1102.2), (7, .pointer (some ⟨b1129, 0, none⟩)), (8, .int .i64 s1260), (73, .bool false), (74, .slice p1112 s1102.1.length c1113), (76, .slice ((g1124 0).1) y1119.Gave.length ((g1124 0).2)), (77, .int .i64 s1260)] w1264 (by kernel_rfl) ?_
            obtain ⟨y1286, hy1286, hm⟩ := gx_bind hm
            refine W_val (elemP ((g1124 0).1) (s1260.toNat * 1)) w1264 (by kernel_rfl) (E_index (E := Gx.encI) _ _ _ y1119.Gave.length ((g1124 0).2) .i64 s1260 1 (y := y1286) rfl (by kernel_rfl) (by kernel_rfl) (by kernel_rfl) ((hi1123.mem0 M1265).at_ hg1125 0 ⟨Int, Gx.encI, y1119.Gave, (g1124 0).1, (g1124 0).2⟩ (by kernel_rfl)) rfl hy1286) ?_
            refine W_val (.int .i64 y1286) w1264 (by kernel_rfl) (E_loadE (E := Gx.encI) _ _ false 1 s1260 0 (s1260.toNat * 1) y1286 (.int .i64 y1286) rfl (by kernel_rfl) (by kernel_rfl) (by kernel_rfl) ((hi1123.mem0 M1265).at_ hg1125 0 ⟨Int, Gx.encI, y1119.Gave, (g1124 0).1, (g1124 0).2⟩ (by kernel_rfl)) hy1286 rfl) ?_
            obtain ⟨r1287, hr1287, hm⟩ := gx_bind hm
            refine W_call 81 #[.slice p1112 s1102.1.length c1113, .int .i64 y1286] (by kernel_rfl) (by kernel_rfl) ?_
            refine (c_s_l1Has w1264 s1102.1 p1112 c1113 (ho1115.rd M1265 0 (by kernel_rfl)) y1286 hr1287).mono ?_
            rintro e_ w1288 ⟨rfl, K1289⟩
            have M1290 := M1265.call0 K1289
            refine ⟨_, rfl, ?_⟩
            refine W_run 1 [(0, .slice p471 x469.length c472), (1, .slice p476 x474.length c477), (5, .slice p1112 s1102.1.length c1113), (6, .int .i64 s1102.2), (7, .pointer (some ⟨b1129, 0, none⟩)), (8, .int .i64 s1260), (81, .bool r1287)] w1288 (by kernel_rfl) ?_
            refine W_nil ?_
            obtain rfl := Option.some.inj hm
            exact N_meet fun a ha => ⟨M1290.pick [0, 1] (by kernel_rfl), ha.sub (by kernel_rfl)⟩
          intro a1293 w1291 ⟨M1292, hS1294⟩
          refine N_use hS1294 ?_
          have hm := hm1282
          refine N_then ?_
          rcases gx_bif hm with ⟨hc1295, hm⟩ | ⟨hc1295, hm⟩
          · refine G_cond_t (b := o1280) hc1295 (by kernel_rfl) ?_
            refine G_seq ?_
            refine G_region ?_
            refine W_run 1 [(4, .bool false)] w1291 (by kernel_rfl) ?_
            refine W_nil ?_
            refine N_then ?_
            refine G_ret ?_
            refine N_block_ret ?_
            refine N_then_ret ?_
            refine N_then_ret ?_
            obtain rfl := Option.some.inj hm
            obtain rfl := hout1262 _ rfl
            have hm := hmo1269; simp only [Sum.elim_inr] at hm
            refine N_block_ret ?_
            refine N_meet_ret ?_
            refine N_then_ret ?_
            refine N_block_ret ?_
            refine N_then_ret ?_
            refine N_then_ret ?_
            obtain rfl := Option.some.inj hm
            obtain rfl := hout1104 _ rfl
            have hm := hmo1111; simp only [Sum.elim_inr] at hm
            refine N_block_ret ?_
            refine N_meet_ret ?_
            refine N_then_ret ?_
            obtain rfl := Option.some.inj hm
            refine N_ret [.bool false] (RVs_cons (RV_tmp (by kernel_rfl)) RVs_nil) ?_
            exact ⟨rfl, M1292.pick [] (by kernel_rfl)⟩
          refine G_cond_f (b := o1280) hc1295 (by kernel_rfl) ?_
          refine G_skip ?_
          refine N_block ?_
          refine N_then ?_
          refine G_region ?_
          refine W_run 3 [(0, .slice p471 x469.length c472), (1, .slice p476 x474.length c477), (5, .slice p1112 s1102.1.length c1113), (6, .int .i64 s1102.2), (7, .pointer (some ⟨b1129, 0, none⟩)), (8, .int .i64 (w64 (s1260 + 1)))] w1291 (by kernel_rfl) ?_
          refine W_nil ?_
          obtain rfl := Option.some.inj hm
          exact N_loop fun a ha => ⟨_, rfl, M1292.pick [0, 1] (by kernel_rfl), ha.sub (by kernel_rfl)⟩
        refine G_cond_f (b := (decide (s1260 < (y1119.Gave.length : Int)))) hc1271 (by kernel_rfl) ?_
        refine G_exit ?_
        refine N_then_exit ?_
        refine N_then_exit ?_
        refine N_block_eq ?_
        obtain rfl := Option.some.inj hm
        obtain rfl := hout1262 _ rfl
        exact N_meet fun a ha => ⟨_, rfl, M1265.pick [0, 1] (by kernel_rfl), ha.sub (by kernel_rfl)⟩
      intro a1296 w1297 ⟨o1270, hout_, M1298, hS1299⟩
      refine N_use hS1299 ?_
      subst hout_
      have hm := hmo1269; simp only [Sum.elim_inl] at hm
      refine N_then ?_
      refine G_region ?_
      refine W_run 2 [(0, .slice p471 x469.length c472), (1, .slice p476 x474.length c477), (5, .slice p1112 s1102.1.length c1113), (6, .int .i64 s1102.2), (82, .slice p1112 s1102.1.length c1113), (83, .pointer (some ⟨b1129, 2, none⟩))] w1297 (by kernel_rfl) ?_
      refine W_val (.slice ((g1124 0).1) y1119.Gave.length ((g1124 0).2)) w1297 (by kernel_rfl) (E_load (e := 50) (fr := (0, 0)) _ _ false 1 b1129 2 [.int .i64 y1119.Guest, .int .i64 y1119.Goal, .slice ((g1124 0).1) y1119.Gave.length ((g1124 0).2)] (.slice ((g1124 0).1) y1119.Gave.length ((g1124 0).2)) rfl (by kernel_rfl) (by kernel_rfl) (by kernel_rfl) (M1298.blk 1 (b := b1129) (o := .cells ⟨[.int .i64 y1119.Guest, .int .i64 y1119.Goal, .slice ((g1124 0).1) y1119.Gave.length ((g1124 0).2)]⟩ 50 (0, 0)) (by kernel_rfl))) ?_
      obtain ⟨ap1300, hap1300, hm⟩ := gx_bind hm
      refine W_append (E := Gx.encI) _ _ _ 8 [.int .i64 0] 0 ((g1124 0).2) M1298 ho1115 (by kernel_rfl) (by kernel_rfl) (by kernel_rfl) rfl (by kernel_rfl) (by kernel_rfl) (by kernel_rfl) (by kernel_rfl) (by kernel_rfl) (by kernel_rfl) ((hi1123.mem0 M1298).at_ hg1125 0 ⟨Int, Gx.encI, y1119.Gave, (g1124 0).1, (g1124 0).2⟩ (by kernel_rfl)) hap1300 ?_
      intro p1301 c1302 sg1303 w1304 ho1305 M1306
      refine W_run 1 [(0, .slice p471 x469.length c472), (1, .slice p476 x474.length c477), (5, .slice p1301 ap1300.length c1302), (6, .int .i64 s1102.2)] w1304 (by kernel_rfl) ?_
      refine W_nil ?_
      refine N_block ?_
      refine N_then ?_
      refine G_region ?_
      refine W_run 3 [(0, .slice p471 x469.length c472), (1, .slice p476 x474.length c477), (5, .slice p1301 ap1300.length c1302), (6, .int .i64 (w64 (s1102.2 + 1)))] w1304 (by kernel_rfl) ?_
      refine W_nil ?_
      obtain rfl := Option.some.inj hm
      exact N_loop fun a ha => ⟨_, rfl, p1301, c1302, sg1303, ho1305, M1306.pick [0] (by kernel_rfl), ha.sub (by kernel_rfl)⟩
    refine G_cond_f (b := (decide (s1102.2 < (x474.length : Int)))) hc1118 (by kernel_rfl) ?_
    refine G_exit ?_
    refine N_then_exit ?_
    refine N_then_exit ?_
    refine N_block_eq ?_
    obtain rfl := Option.some.inj hm
    obtain rfl := hout1104 _ rfl
    exact N_meet fun a ha => ⟨_, rfl, M1107.pick [] (by kernel_rfl), ha.sub (by kernel_rfl)⟩
  intro a1308 w1309 ⟨o1117, hout_, M1310, hS1311⟩
  refine N_use hS1311 ?_
  subst hout_
  have hm := hmo1111; simp only [Sum.elim_inl] at hm
  refine N_then ?_
  refine G_seq ?_
  refine G_region ?_
  refine W_run 1 [(4, .bool true)] w1309 (by kernel_rfl) ?_
  refine W_nil ?_
  refine N_then ?_
  refine G_ret ?_
  obtain rfl := Option.some.inj hm
  refine N_ret [.bool true] (RVs_cons (RV_tmp (by kernel_rfl)) RVs_nil) ?_
  exact ⟨rfl, M1310.pick [] (by kernel_rfl)⟩
theorem c_s_l1Own (w : World) (x1346 : List Int) (p1348 : Option Addr) (c1349 : Nat) (h1350 : rdS Gx.encI w x1346 p1348 c1349) {r : (List Int)} (hm : M.s_l1Own x1346 = some r) :
    Calls Try.prog 71 #[.slice p1348 x1346.length c1349] w fun e w' => ∃ (p1352 : Option Addr) (c1353 : Nat) (sg1354 : Seg), e = .returned (.slice p1352 r.length c1353) ∧ ownS Gx.encI r p1352 c1353 sg1354 ∧ Mem [] w w' [sg1354] := by
  unfold M.s_l1Own at hm
  refine C_enter Try.func71 rfl (by kernel_rfl) ?_
  have M0 := Mem.refl [] w
  refine G_seq ?_
  refine G_region ?_
  refine W_run 1 [(0, .slice p1348 x1346.length c1349)] w (by kernel_rfl) ?_
  refine W_nil ?_
  refine N_then ?_
  refine G_seq ?_
  refine G_region ?_
  refine W_lit (E := Gx.encI) ([] : List Int) 0 [] 3 M0 (by kernel_rfl) (by kernel_rfl) (by kernel_rfl) (by kernel_rfl) (by kernel_rfl) ?_
  intro p1356 c1357 sg1358 w1359 ho1360 M1361
  refine W_run 1 [(3, .slice p1356 ([] : List Int).length c1357), (4, .slice p1348 x1346.length c1349)] w1359 (by kernel_rfl) ?_
  obtain ⟨ap1363, hap1363, hm⟩ := gx_bind hm
  refine W_append (E := Gx.encI) _ _ _ 8 [.int .i64 0] 0 c1349 M1361 ho1360 (by kernel_rfl) (by kernel_rfl) (by kernel_rfl) rfl (by kernel_rfl) (by kernel_rfl) (by kernel_rfl) (by kernel_rfl) (by kernel_rfl) (by kernel_rfl) (h1350.mem0 M1361) hap1363 ?_
  intro p1364 c1365 sg1366 w1367 ho1368 M1369
  refine W_run 1 [(2, .slice p1364 ap1363.length c1365)] w1367 (by kernel_rfl) ?_
  refine W_nil ?_
  refine N_then ?_
  refine G_ret ?_
  obtain rfl := Option.some.inj hm
  refine N_ret [.slice p1364 ap1363.length c1365] (RVs_cons (RV_tmp (by kernel_rfl)) RVs_nil) ?_
  exact ⟨p1364, c1365, sg1366, rfl, ho1368, M1369.pick [0] (by kernel_rfl)⟩
theorem c_s_l18With (w : World) (x1381 : List Balloon) (p1383 : Option Addr) (c1384 : Nat) (h1385 : rdD deepBalloon w x1381 p1383 c1384) (x1386 : Int) (x1387 : Int) (x1388 : List Int) (p1390 : Option Addr) (c1391 : Nat) (h1392 : rdS Gx.encI w x1388 p1390 c1391) {r : (List Balloon)} (hm : M.s_l18With x1381 x1386 x1387 x1388 = some r) :
    Calls Try.prog 58 #[.slice p1383 x1381.length c1384, .int .i64 x1386, .int .i64 x1387, .slice p1390 x1388.length c1391] w fun e w' => ∃ (p1394 : Option Addr) (c1395 : Nat) (sg1396 : Seg) (sg1397 : Seg), e = .returned (.slice p1394 r.length c1395) ∧ ownD deepBalloon r p1394 c1395 sg1396 sg1397 ∧ Mem [] w w' [sg1396, sg1397] := by
  unfold M.s_l18With at hm
  refine C_enter Try.func58 rfl (by kernel_rfl) ?_
  have M0 := Mem.refl [] w
  refine G_seq ?_
  refine G_region ?_
  refine W_run 1 [(0, .slice p1383 x1381.length c1384), (1, .int .i64 x1386), (2, .int .i64 x1387), (3, .slice p1390 x1388.length c1391)] w (by kernel_rfl) ?_
  refine W_nil ?_
  refine N_then ?_
  refine G_seq ?_
  refine G_region ?_
  have M1399 : Mem [] w w [] := M0.pick [] (by kernel_rfl)
  have M1400 : Mem [] w w [[]] := M1399.regroup (by simp)
  refine W_litD (D := deepBalloon) [] ([] : List Balloon) rfl 0 [] 50 M1400 (by kernel_rfl) (by kernel_rfl) (by kernel_rfl) (by kernel_rfl) (by kernel_rfl) ownI_nil ?_
  intro p1401 c1402 sg1403 w1404 ho1405 M1406
  refine W_run 1 [(0, .slice p1383 x1381.length c1384), (1, .int .i64 x1386), (2, .int .i64 x1387), (3, .slice p1390 x1388.length c1391), (9, .slice p1401 ([] : List Balloon).length c1402)] w1404 (by kernel_rfl) ?_
  refine W_nil ?_
  refine N_then ?_
  refine G_seq ?_
  refine G_seq ?_
  refine G_region ?_
  refine W_run 1 [(0, .slice p1383 x1381.length c1384), (1, .int .i64 x1386), (2, .int .i64 x1387), (3, .slice p1390 x1388.length c1391), (9, .slice p1401 ([] : List Balloon).length c1402), (10, .int .i64 0)] w1404 (by kernel_rfl) ?_
  refine W_nil ?_
  refine N_then ?_
  obtain ⟨out1765, hw1766, hmo1767⟩ := gx_bind hm
  refine G_meet (fun a w' => ∃ (p1775 : Option Addr), ∃ (c1776 : Nat), ∃ (sg1777 : Seg), ∃ (sg1778 : Seg), ownD deepBalloon out1765 p1775 c1776 sg1777 sg1778 ∧ Mem [] w w' [sg1777, sg1778] ∧ Sat Try.f58.ntmps [(9, .slice p1775 out1765.length c1776)] a) ?_ ?_
  · refine G_block ?_
    refine G_while (σ := List Balloon × Int) (ρ := List Balloon) (fun s1758 a w' => ∃ (p1768 : Option Addr), ∃ (c1769 : Nat), ∃ (sg1770 : Seg), ∃ (sg1771 : Seg), ownD deepBalloon s1758.1 p1768 c1769 sg1770 sg1771 ∧ Mem [] w w' [sg1770, sg1771] ∧ Sat Try.f58.ntmps [(0, .slice p1383 x1381.length c1384), (1, .int .i64 x1386), (2, .int .i64 x1387), (3, .slice p1390 x1388.length c1391), (9, .slice p1768 s1758.1.length c1769), (10, .int .i64 s1758.2)] a) hw1766 (fun a ha => ⟨p1401, c1402, sg1403, [], ho1405, M1406.pick [1, 0] (by kernel_rfl), ha.sub (by kernel_rfl)⟩) ?_
    clear hm
    intro s1758 x1759 hm hout1760 a1761 w1762 ⟨p1768, c1769, sg1770, sg1771, ho1772, M1763, hS1764⟩
    refine G_use hS1764 ?_
    refine G_seq ?_
    refine G_seq ?_
    refine G_region ?_
    refine W_run 4 [(0, .slice p1383 x1381.length c1384), (1, .int .i64 x1386), (2, .int .i64 x1387), (3, .slice p1390 x1388.length c1391), (9, .slice p1768 s1758.1.length c1769), (10, .int .i64 s1758.2), (16, .bool (decide (s1758.2 < (x1381.length : Int))))] w1762 (by kernel_rfl) ?_
    refine W_nil ?_
    refine N_then ?_
    rcases gx_bif hm with ⟨hc1781, hm⟩ | ⟨hc1781, hm⟩
    · refine G_cond_t (b := (decide (s1758.2 < (x1381.length : Int)))) hc1781 (by kernel_rfl) ?_
      refine G_skip ?_
      refine N_then ?_
      refine G_seq ?_
      refine G_block ?_
      refine G_seq ?_
      obtain ⟨y1784, hy1784, hm⟩ := gx_bind hm
      obtain ⟨zs1785, hz1786, hr1787, hi1788⟩ := id h1385
      obtain ⟨g1789, hg1790⟩ := gxIdx_fst hz1786 hy1784
      obtain ⟨y1792, hy1792, hm⟩ := gx_bind hm
      obtain ⟨g1793, hg1794⟩ := gxIdx_fst hz1786 hy1792
      obtain ⟨y1796, hy1796, hm⟩ := gx_bind hm
      obtain ⟨g1797, hg1798⟩ := gxIdx_fst hz1786 hy1796
      obtain ⟨r1800, hr1800, hm⟩ := gx_bind hm
      refine G_sub [(0, .slice p1383 x1381.length c1384), (1, .int .i64 x1386), (2, .int .i64 x1387), (3, .slice p1390 x1388.length c1391), (9, .slice p1768 s1758.1.length c1769), (10, .int .i64 s1758.2), (16, .bool (decide (s1758.2 < (x1381.length : Int))))] (by kernel_rfl) ?_
      refine G_dagL 18 [[], [], [0, 1], [2], [3], [], [], [5, 6], [7], [8], [], [], [10, 11], [12], [13], [14], [4, 9], []] [[], [], [], [], [], [], [], [], [], [], [], [], [], [], [], [], [], []] [[], [], [], [], [], [], [], [], [], [], [], [], [], [], [], [], [], []] [[], [], [], [], [], [], [], [], [], [], [], [], [], [], [], [], [15], []] [[], [], [], [], [], [], [], [], [], [], [], [], [], [], [], [], [15], []] [[], [], [], [], [], [], [], [], [], [], [], [], [], [], [], [], [], []] (fun _ => []) (fun i => ([fun f v s => v = (.slice p1383 x1381.length c1384 : Value) ∧ s = [], fun f v s => v = (.int .i64 s1758.2 : Value) ∧ s = [], fun f v s => v = (elemP p1383 (s1758.2.toNat * 3) : Value) ∧ s = [], fun f v s => v = (elemP p1383 (s1758.2.toNat * 3 + 0) : Value) ∧ s = [], fun f v s => v = (.int .i64 y1784.Guest : Value) ∧ s = [], fun f v s => v = (.slice p1383 x1381.length c1384 : Value) ∧ s = [], fun f v s => v = (.int .i64 s1758.2 : Value) ∧ s = [], fun f v s => v = (elemP p1383 (s1758.2.toNat * 3) : Value) ∧ s = [], fun f v s => v = (elemP p1383 (s1758.2.toNat * 3 + 1) : Value) ∧ s = [], fun f v s => v = (.int .i64 y1792.Goal : Value) ∧ s = [], fun f v s => v = (.slice p1383 x1381.length c1384 : Value) ∧ s = [], fun f v s => v = (.int .i64 s1758.2 : Value) ∧ s = [], fun f v s => v = (elemP p1383 (s1758.2.toNat * 3) : Value) ∧ s = [], fun f v s => v = (elemP p1383 (s1758.2.toNat * 3 + 2) : Value) ∧ s = [], fun f v s => v = (.slice ((g1797 0).1) y1796.Gave.length ((g1797 0).2) : Value) ∧ s = [], fun f v s => ∃ (p1802 : Option Addr) (c1803 : Nat), v = (.slice p1802 r1800.length c1803 : Value) ∧ ownS Gx.encI r1800 p1802 c1803 s, fun f v s => v = (.agg #[.int .i64 y1784.Guest, .int .i64 y1792.Goal, (atPath (f 15) [])] : Value) ∧ s = [], fun f v s => ∃ (b1809 : Nat), v = (.pointer (some ⟨b1809, 0, none⟩) : Value) ∧ s = [(b1809, .cells ⟨[.int .i64 0, .int .i64 0, .slice none 0 0]⟩ 50 (0, 0))]] : List ((Nat → Value) → Value → Seg → Prop)).getD i (fun _ _ _ => False)) (fun j f v => ∃ s, (fun i => ([fun f v s => v = (.slice p1383 x1381.length c1384 : Value) ∧ s = [], fun f v s => v = (.int .i64 s1758.2 : Value) ∧ s = [], fun f v s => v = (elemP p1383 (s1758.2.toNat * 3) : Value) ∧ s = [], fun f v s => v = (elemP p1383 (s1758.2.toNat * 3 + 0) : Value) ∧ s = [], fun f v s => v = (.int .i64 y1784.Guest : Value) ∧ s = [], fun f v s => v = (.slice p1383 x1381.length c1384 : Value) ∧ s = [], fun f v s => v = (.int .i64 s1758.2 : Value) ∧ s = [], fun f v s => v = (elemP p1383 (s1758.2.toNat * 3) : Value) ∧ s = [], fun f v s => v = (elemP p1383 (s1758.2.toNat * 3 + 1) : Value) ∧ s = [], fun f v s => v = (.int .i64 y1792.Goal : Value) ∧ s = [], fun f v s => v = (.slice p1383 x1381.length c1384 : Value) ∧ s = [], fun f v s => v = (.int .i64 s1758.2 : Value) ∧ s = [], fun f v s => v = (elemP p1383 (s1758.2.toNat * 3) : Value) ∧ s = [], fun f v s => v = (elemP p1383 (s1758.2.toNat * 3 + 2) : Value) ∧ s = [], fun f v s => v = (.slice ((g1797 0).1) y1796.Gave.length ((g1797 0).2) : Value) ∧ s = [], fun f v s => ∃ (p1802 : Option Addr) (c1803 : Nat), v = (.slice p1802 r1800.length c1803 : Value) ∧ ownS Gx.encI r1800 p1802 c1803 s, fun f v s => v = (.agg #[.int .i64 y1784.Guest, .int .i64 y1792.Goal, (atPath (f 15) [])] : Value) ∧ s = [], fun f v s => ∃ (b1809 : Nat), v = (.pointer (some ⟨b1809, 0, none⟩) : Value) ∧ s = [(b1809, .cells ⟨[.int .i64 0, .int .i64 0, .slice none 0 0]⟩ 50 (0, 0))]] : List ((Nat → Value) → Value → Seg → Prop)).getD i (fun _ _ _ => False)) j f v s) [] [15, 16, 17] [15, 17] (fun _ _ _ s h => ⟨s, h⟩) (by kernel_rfl) (by kernel_rfl) (M1763.preNil 18) (by kernel_rfl) (by kernel_rfl) (by kernel_rfl) (by kernel_rfl) (allOb_cons ?_ (allOb_cons ?_ (allOb_cons ?_ (allOb_cons ?_ (allOb_cons ?_ (allOb_cons ?_ (allOb_cons ?_ (allOb_cons ?_ (allOb_cons ?_ (allOb_cons ?_ (allOb_cons ?_ (allOb_cons ?_ (allOb_cons ?_ (allOb_cons ?_ (allOb_cons ?_ (allOb_cons ?_ (allOb_cons ?_ (allOb_cons ?_ allOb_nil)))))))))))))))))) ?_
      · intro g1782 f1783
        intro R w1810 M1811
        refine W_run 1 [(19, .slice p1383 x1381.length c1384)] w1810 (by kernel_rfl) ?_
        exact W_nil (ob_end (.slice p1383 x1381.length c1384) [] rfl (by kernel_rfl) ⟨by kernel_rfl, rfl⟩ M1811)
      · intro g1782 f1783
        intro R w1814 M1815
        refine W_run 1 [(20, .int .i64 s1758.2)] w1814 (by kernel_rfl) ?_
        exact W_nil (ob_end (.int .i64 s1758.2) [] rfl (by kernel_rfl) ⟨by kernel_rfl, rfl⟩ M1815)
      · intro g1782 f1783
        intro v0_ hb0_
        obtain ⟨rfl, _⟩ := hb0_
        intro v1_ hb1_
        obtain ⟨rfl, _⟩ := hb1_
        intro R w1818 M1819
        refine W_val (elemP p1383 (s1758.2.toNat * 3)) w1818 (by kernel_rfl) (E_index (E := deepBalloon.E) _ _ _ x1381.length c1384 .i64 s1758.2 3 (y := (y1784, g1789)) rfl (by kernel_rfl) (by kernel_rfl) (by kernel_rfl) (hr1787.mem0 M1819) (len_fst hz1786) hg1790) ?_
        exact W_nil (ob_end (elemP p1383 (s1758.2.toNat * 3)) [] rfl (by kernel_rfl) ⟨by kernel_rfl, rfl⟩ M1819)
      · intro g1782 f1783
        intro v2_ hb2_
        obtain ⟨rfl, _⟩ := hb2_
        intro R w1822 M1823
        refine W_val (elemP p1383 (s1758.2.toNat * 3 + 0)) w1822 (by kernel_rfl) (E_fieldE (E := deepBalloon.E) _ _ 0 (s1758.2.toNat * 3) 0 rfl (by kernel_rfl) (by kernel_rfl) (hr1787.mem0 M1823) hg1790) ?_
        exact W_nil (ob_end (elemP p1383 (s1758.2.toNat * 3 + 0)) [] rfl (by kernel_rfl) ⟨by kernel_rfl, rfl⟩ M1823)
      · intro g1782 f1783
        intro v3_ hb3_
        obtain ⟨rfl, _⟩ := hb3_
        intro R w1826 M1827
        refine W_val (.int .i64 y1784.Guest) w1826 (by kernel_rfl) (E_loadE (E := deepBalloon.E) _ _ false 1 s1758.2 0 (s1758.2.toNat * 3 + 0) (y1784, g1789) (.int .i64 y1784.Guest) rfl (by kernel_rfl) (by kernel_rfl) (by kernel_rfl) (hr1787.mem0 M1827) hg1790 rfl) ?_
        exact W_nil (ob_end (.int .i64 y1784.Guest) [] rfl (by kernel_rfl) ⟨by kernel_rfl, rfl⟩ M1827)
      · intro g1782 f1783
        intro R w1830 M1831
        refine W_run 1 [(24, .slice p1383 x1381.length c1384)] w1830 (by kernel_rfl) ?_
        exact W_nil (ob_end (.slice p1383 x1381.length c1384) [] rfl (by kernel_rfl) ⟨by kernel_rfl, rfl⟩ M1831)
      · intro g1782 f1783
        intro R w1834 M1835
        refine W_run 1 [(25, .int .i64 s1758.2)] w1834 (by kernel_rfl) ?_
        exact W_nil (ob_end (.int .i64 s1758.2) [] rfl (by kernel_rfl) ⟨by kernel_rfl, rfl⟩ M1835)
      · intro g1782 f1783
        intro v5_ hb5_
        obtain ⟨rfl, _⟩ := hb5_
        intro v6_ hb6_
        obtain ⟨rfl, _⟩ := hb6_
        intro R w1838 M1839
        refine W_val (elemP p1383 (s1758.2.toNat * 3)) w1838 (by kernel_rfl) (E_index (E := deepBalloon.E) _ _ _ x1381.length c1384 .i64 s1758.2 3 (y := (y1792, g1793)) rfl (by kernel_rfl) (by kernel_rfl) (by kernel_rfl) (hr1787.mem0 M1839) (len_fst hz1786) hg1794) ?_
        exact W_nil (ob_end (elemP p1383 (s1758.2.toNat * 3)) [] rfl (by kernel_rfl) ⟨by kernel_rfl, rfl⟩ M1839)
      · intro g1782 f1783
        intro v7_ hb7_
        obtain ⟨rfl, _⟩ := hb7_
        intro R w1842 M1843
        refine W_val (elemP p1383 (s1758.2.toNat * 3 + 1)) w1842 (by kernel_rfl) (E_fieldE (E := deepBalloon.E) _ _ 1 (s1758.2.toNat * 3) 1 rfl (by kernel_rfl) (by kernel_rfl) (hr1787.mem0 M1843) hg1794) ?_
        exact W_nil (ob_end (elemP p1383 (s1758.2.toNat * 3 + 1)) [] rfl (by kernel_rfl) ⟨by kernel_rfl, rfl⟩ M1843)
      · intro g1782 f1783
        intro v8_ hb8_
        obtain ⟨rfl, _⟩ := hb8_
        intro R w1846 M1847
        refine W_val (.int .i64 y1792.Goal) w1846 (by kernel_rfl) (E_loadE (E := deepBalloon.E) _ _ false 1 s1758.2 1 (s1758.2.toNat * 3 + 1) (y1792, g1793) (.int .i64 y1792.Goal) rfl (by kernel_rfl) (by kernel_rfl) (by kernel_rfl) (hr1787.mem0 M1847) hg1794 rfl) ?_
        exact W_nil (ob_end (.int .i64 y1792.Goal) [] rfl (by kernel_rfl) ⟨by kernel_rfl, rfl⟩ M1847)
      · intro g1782 f1783
        intro R w1850 M1851
        refine W_run 1 [(29, .slice p1383 x1381.length c1384)] w1850 (by kernel_rfl) ?_
        exact W_nil (ob_end (.slice p1383 x1381.length c1384) [] rfl (by kernel_rfl) ⟨by kernel_rfl, rfl⟩ M1851)
      · intro g1782 f1783
        intro R w1854 M1855
        refine W_run 1 [(30, .int .i64 s1758.2)] w1854 (by kernel_rfl) ?_
        exact W_nil (ob_end (.int .i64 s1758.2) [] rfl (by kernel_rfl) ⟨by kernel_rfl, rfl⟩ M1855)
      · intro g1782 f1783
        intro v10_ hb10_
        obtain ⟨rfl, _⟩ := hb10_
        intro v11_ hb11_
        obtain ⟨rfl, _⟩ := hb11_
        intro R w1858 M1859
        refine W_val (elemP p1383 (s1758.2.toNat * 3)) w1858 (by kernel_rfl) (E_index (E := deepBalloon.E) _ _ _ x1381.length c1384 .i64 s1758.2 3 (y := (y1796, g1797)) rfl (by kernel_rfl) (by kernel_rfl) (by kernel_rfl) (hr1787.mem0 M1859) (len_fst hz1786) hg1798) ?_
        exact W_nil (ob_end (elemP p1383 (s1758.2.toNat * 3)) [] rfl (by kernel_rfl) ⟨by kernel_rfl, rfl⟩ M1859)
      · intro g1782 f1783
        intro v12_ hb12_
        obtain ⟨rfl, _⟩ := hb12_
        intro R w1862 M1863
        refine W_val (elemP p1383 (s1758.2.toNat * 3 + 2)) w1862 (by kernel_rfl) (E_fieldE (E := deepBalloon.E) _ _ 2 (s1758.2.toNat * 3) 2 rfl (by kernel_rfl) (by kernel_rfl) (hr1787.mem0 M1863) hg1798) ?_
        exact W_nil (ob_end (elemP p1383 (s1758.2.toNat * 3 + 2)) [] rfl (by kernel_rfl) ⟨by kernel_rfl, rfl⟩ M1863)
      · intro g1782 f1783
        intro v13_ hb13_
        obtain ⟨rfl, _⟩ := hb13_
        intro R w1866 M1867
        refine W_val (.slice ((g1797 0).1) y1796.Gave.length ((g1797 0).2)) w1866 (by kernel_rfl) (E_loadE (E := deepBalloon.E) _ _ false 1 s1758.2 2 (s1758.2.toNat * 3 + 2) (y1796, g1797) (.slice ((g1797 0).1) y1796.Gave.length ((g1797 0).2)) rfl (by kernel_rfl) (by kernel_rfl) (by kernel_rfl) (hr1787.mem0 M1867) hg1798 rfl) ?_
        exact W_nil (ob_end (.slice ((g1797 0).1) y1796.Gave.length ((g1797 0).2)) [] rfl (by kernel_rfl) ⟨by kernel_rfl, rfl⟩ M1867)
      · intro g1782 f1783
        intro v14_ hb14_
        obtain ⟨rfl, _⟩ := hb14_
        intro R w1870 M1871
        refine W_call 71 #[.slice ((g1797 0).1) y1796.Gave.length ((g1797 0).2)] (by kernel_rfl) (by kernel_rfl) ?_
        refine (c_s_l1Own w1870 y1796.Gave ((g1797 0).1) ((g1797 0).2) ((hi1788.mem0 M1871).at_ hg1798 0 ⟨Int, Gx.encI, y1796.Gave, (g1797 0).1, (g1797 0).2⟩ (by kernel_rfl)) hr1800).mono ?_
        rintro e_ w1872 ⟨p1802, c1803, sg1804, rfl, ho1805, K1874⟩
        refine ⟨_, rfl, ?_⟩
        exact W_nil (ob_end (.slice p1802 r1800.length c1803) sg1804 rfl (by kernel_rfl) ⟨p1802, c1803, rfl, ho1805⟩ (Mem.callMid M1871 K1874))
      · intro g1782 f1783
        intro v15_ hb15_
        obtain ⟨_, p1802, c1803, rfl, _⟩ := hb15_
        intro v4_ hb4_
        obtain ⟨rfl, _⟩ := hb4_
        intro v9_ hb9_
        obtain ⟨rfl, _⟩ := hb9_
        intro R w1875 M1876
        refine W_run 1 [(35, .agg #[.int .i64 y1784.Guest, .int .i64 y1792.Goal, .slice p1802 r1800.length c1803])] w1875 (by kernel_rfl) ?_
        exact W_nil (ob_end (.agg #[.int .i64 y1784.Guest, .int .i64 y1792.Goal, .slice p1802 r1800.length c1803]) [] rfl (by kernel_rfl) ⟨by kernel_rfl, rfl⟩ M1876)
      · intro g1782 f1783
        intro R w1879 M1880
        refine W_new (fun b => .pointer (some ⟨b, 0, none⟩)) (.cells ⟨[.int .i64 0, .int .i64 0, .slice none 0 0]⟩ 50 (0, 0)) M1880 rfl (by kernel_rfl) (by kernel_rfl) ?_
        intro b1809 w1881 M1882
        exact W_nil (ob_end (.pointer (some ⟨b1809, 0, none⟩)) [(b1809, .cells ⟨[.int .i64 0, .int .i64 0, .slice none 0 0]⟩ 50 (0, 0))] rfl (by kernel_rfl) ⟨b1809, rfl, rfl⟩ (Mem.mid M1882))
      intro g1782 f1783
      intro v15_ hb15_
      obtain ⟨p1802, c1803, rfl, ho1805⟩ := hb15_
      intro v16_ hb16_
      obtain ⟨hv16_, _⟩ := hb16_
      obtain rfl : v16_ = (.agg #[.int .i64 y1784.Guest, .int .i64 y1792.Goal, .slice p1802 r1800.length c1803] : Value) := hv16_.trans (by kernel_rfl)
      intro v17_ hb17_
      obtain ⟨b1809, rfl, hs17_⟩ := hb17_
      intro w1883 M1884
      have M1885 : Mem [] w w1883 [sg1770, sg1771, (g1782 15), (g1782 17)] := M1884
      rw [hs17_] at M1885
      refine W_store _ _ _ true 3 b1809 0 [.int .i64 0, .int .i64 0, .slice none 0 0] 50 (.agg #[.int .i64 y1784.Guest, .int .i64 y1792.Goal, .slice p1802 r1800.length c1803]) 3 [.int .i64 y1784.Guest, .int .i64 y1792.Goal, .slice p1802 r1800.length c1803] M1885 (by kernel_rfl) rfl (by kernel_rfl) (by kernel_rfl) (by kernel_rfl) (by kernel_rfl) (by kernel_rfl) (by kernel_rfl) (by kernel_rfl) (by kernel_rfl) ?_
      intro w1886 M1887
      refine W_nil ?_
      refine N_then ?_
      refine G_seq ?_
      refine G_seq ?_
      refine G_region ?_
      refine W_run 3 [(0, .slice p1383 x1381.length c1384), (1, .int .i64 x1386), (2, .int .i64 x1387), (3, .slice p1390 x1388.length c1391), (9, .slice p1768 s1758.1.length c1769), (10, .int .i64 s1758.2), (11, .pointer (some ⟨b1809, 0, none⟩)), (38, .bool (s1758.2 == x1386))] w1886 (by kernel_rfl) ?_
      refine W_nil ?_
      refine N_then ?_
      obtain ⟨o1902, ho1903, hm1904⟩ := gx_bind hm
      refine G_meet (fun a w' => ∃ (p1905 : Option Addr), ∃ (c1906 : Nat), ∃ (sg1907 : Seg), ownS Gx.encI o1902.2 p1905 c1906 sg1907 ∧ Mem [] w w' [sg1770, sg1771, [(b1809, .cells ⟨[.int .i64 y1784.Guest, .int .i64 o1902.1, .slice p1905 o1902.2.length c1906]⟩ 50 (0, 0))], sg1907] ∧ Sat Try.f58.ntmps [(0, .slice p1383 x1381.length c1384), (1, .int .i64 x1386), (2, .int .i64 x1387), (3, .slice p1390 x1388.length c1391), (9, .slice p1768 s1758.1.length c1769), (10, .int .i64 s1758.2), (11, .pointer (some ⟨b1809, 0, none⟩))] a) ?_ ?_
      · have hm := ho1903
        rcases gx_bif hm with ⟨hc1910, hm⟩ | ⟨hc1910, hm⟩
        · refine G_cond_t (b := (s1758.2 == x1386)) hc1910 (by kernel_rfl) ?_
          refine G_seq ?_
          refine G_region ?_
          refine W_run 2 [(0, .slice p1383 x1381.length c1384), (1, .int .i64 x1386), (2, .int .i64 x1387), (3, .slice p1390 x1388.length c1391), (9, .slice p1768 s1758.1.length c1769), (10, .int .i64 s1758.2), (11, .pointer (some ⟨b1809, 0, none⟩)), (39, .int .i64 x1387), (40, .pointer (some ⟨b1809, 1, none⟩))] w1886 (by kernel_rfl) ?_
          refine W_store _ _ _ false 1 b1809 1 [.int .i64 y1784.Guest, .int .i64 y1792.Goal, .slice p1802 r1800.length c1803] 50 (.int .i64 x1387) 3 [.int .i64 y1784.Guest, .int .i64 x1387, .slice p1802 r1800.length c1803] M1887 (by kernel_rfl) rfl (by kernel_rfl) (by kernel_rfl) (by kernel_rfl) (by kernel_rfl) (by kernel_rfl) (by kernel_rfl) (by kernel_rfl) (by kernel_rfl) ?_
          intro w1911 M1912
          refine W_nil ?_
          refine N_then ?_
          refine G_region ?_
          refine W_run 1 [(0, .slice p1383 x1381.length c1384), (1, .int .i64 x1386), (2, .int .i64 x1387), (3, .slice p1390 x1388.length c1391), (9, .slice p1768 s1758.1.length c1769), (10, .int .i64 s1758.2), (11, .pointer (some ⟨b1809, 0, none⟩)), (41, .slice p1390 x1388.length c1391)] w1911 (by kernel_rfl) ?_
          obtain ⟨r1913, hr1913, hm⟩ := gx_bind hm
          refine W_call 71 #[.slice p1390 x1388.length c1391] (by kernel_rfl) (by kernel_rfl) ?_
          refine (c_s_l1Own w1911 x1388 p1390 c1391 (h1392.mem0 M1912) hr1913).mono ?_
          rintro e_ w1919 ⟨p1915, c1916, sg1917, rfl, ho1918, K1920⟩
          have M1921 := M1912.call K1920
          refine ⟨_, rfl, ?_⟩
          refine W_run 1 [(0, .slice p1383 x1381.length c1384), (1, .int .i64 x1386), (2, .int .i64 x1387), (3, .slice p1390 x1388.length c1391), (9, .slice p1768 s1758.1.length c1769), (10, .int .i64 s1758.2), (11, .pointer (some ⟨b1809, 0, none⟩)), (42, .slice p1915 r1913.length c1916), (43, .pointer (some ⟨b1809, 2, none⟩))] w1919 (by kernel_rfl) ?_
          refine W_store _ _ _ false 1 b1809 2 [.int .i64 y1784.Guest, .int .i64 x1387, .slice p1802 r1800.length c1803] 50 (.slice p1915 r1913.length c1916) 3 [.int .i64 y1784.Guest, .int .i64 x1387, .slice p1915 r1913.length c1916] M1921 (by kernel_rfl) rfl (by kernel_rfl) (by kernel_rfl) (by kernel_rfl) (by kernel_rfl) (by kernel_rfl) (by kernel_rfl) (by kernel_rfl) (by kernel_rfl) ?_
          intro w1922 M1923
          refine W_nil ?_
          obtain rfl := Option.some.inj hm
          exact N_meet fun a ha => ⟨p1915, c1916, sg1917, ho1918, M1923.pick [0, 1, 3, 4] (by kernel_rfl), ha.sub (by kernel_rfl)⟩
        refine G_cond_f (b := (s1758.2 == x1386)) hc1910 (by kernel_rfl) ?_
        refine G_skip ?_
        obtain rfl := Option.some.inj hm
        exact N_meet fun a ha => ⟨p1802, c1803, (g1782 15), ho1805, M1887.pick [0, 1, 3, 2] (by kernel_rfl), ha.sub (by kernel_rfl)⟩
      intro a1926 w1924 ⟨p1905, c1906, sg1907, ho1908, M1925, hS1927⟩
      refine N_use hS1927 ?_
      have hm := hm1904
      refine N_then ?_
      refine G_region ?_
      refine W_run 1 [(0, .slice p1383 x1381.length c1384), (1, .int .i64 x1386), (2, .int .i64 x1387), (3, .slice p1390 x1388.length c1391), (9, .slice p1768 s1758.1.length c1769), (10, .int .i64 s1758.2), (11, .pointer (some ⟨b1809, 0, none⟩)), (44, .slice p1768 s1758.1.length c1769)] w1924 (by kernel_rfl) ?_
      refine W_val (.agg #[.int .i64 y1784.Guest, .int .i64 o1902.1, .slice p1905 o1902.2.length c1906]) w1924 (by kernel_rfl) (E_load (e := 50) (fr := (0, 0)) _ _ true 3 b1809 0 [.int .i64 y1784.Guest, .int .i64 o1902.1, .slice p1905 o1902.2.length c1906] (.agg #[.int .i64 y1784.Guest, .int .i64 o1902.1, .slice p1905 o1902.2.length c1906]) rfl (by kernel_rfl) (by kernel_rfl) (by kernel_rfl) (M1925.blk 2 (b := b1809) (o := .cells ⟨[.int .i64 y1784.Guest, .int .i64 o1902.1, .slice p1905 o1902.2.length c1906]⟩ 50 (0, 0)) (by kernel_rfl))) ?_
      have M1929 : Mem [] w w1924 [sg1770, sg1771, [(b1809, .cells ⟨[.int .i64 y1784.Guest, .int .i64 o1902.1, .slice p1905 o1902.2.length c1906]⟩ 50 (0, 0))], sg1907] := M1925.pick [0, 1, 2, 3] (by kernel_rfl)
      have M1930 : Mem [] w w1924 [sg1770, sg1771, [(b1809, .cells ⟨[.int .i64 y1784.Guest, .int .i64 o1902.1, .slice p1905 o1902.2.length c1906]⟩ 50 (0, 0))], (sg1907 ++ [])] := M1929.regroup (by simp)
      refine W_litD (D := deepBalloon) [((⟨y1784.Guest, o1902.1, o1902.2⟩ : Balloon), plOf [(p1905, c1906)])] [(⟨y1784.Guest, o1902.1, o1902.2⟩ : Balloon)] rfl 1 [.int .i64 y1784.Guest, .int .i64 o1902.1, .slice p1905 o1902.2.length c1906] 50 M1930 (by kernel_rfl) (by kernel_rfl) (by kernel_rfl) (by kernel_rfl) (by kernel_rfl) (ownI_cons (i := ⟨Int, Gx.encI, _, _, _⟩) ho1908 ownI_nil) ?_
      intro p1931 c1932 sg1933 w1934 ho1935 M1936
      obtain ⟨ap1938, hap1938, hm⟩ := gx_bind hm
      obtain ⟨zs1940, hz1941, hr1942, hi1943⟩ := id ho1935
      refine W_appendD (D := deepBalloon) (us := zs1940) (s2 := (sg1907 ++ [])) _ _ _ 40 [.int .i64 0, .int .i64 0, .slice none 0 0] 0 c1932 M1936 ho1772 (by kernel_rfl) (by kernel_rfl) (by kernel_rfl) rfl (by kernel_rfl) (by kernel_rfl) (by kernel_rfl) (by kernel_rfl) (by kernel_rfl) (by kernel_rfl) (hr1942.rd M1936 4 (by kernel_rfl)) hz1941 hi1943 hap1938 ?_
      intro p1944 c1945 sg1946 w1947 ho1948 M1949
      have M1950 : Mem [] w w1947 [sg1946, [(b1809, .cells ⟨[.int .i64 y1784.Guest, .int .i64 o1902.1, .slice p1905 o1902.2.length c1906]⟩ 50 (0, 0))], sg1933, sg1771, (sg1907 ++ [])] := M1949.pick [0, 2, 4, 1, 3] (by kernel_rfl)
      have M1951 : Mem [] w w1947 [sg1946, [(b1809, .cells ⟨[.int .i64 y1784.Guest, .int .i64 o1902.1, .slice p1905 o1902.2.length c1906]⟩ 50 (0, 0))], sg1933, (sg1771 ++ (sg1907 ++ []))] := M1950.regroup (by simp)
      refine W_run 1 [(0, .slice p1383 x1381.length c1384), (1, .int .i64 x1386), (2, .int .i64 x1387), (3, .slice p1390 x1388.length c1391), (9, .slice p1944 ap1938.length c1945), (10, .int .i64 s1758.2)] w1947 (by kernel_rfl) ?_
      refine W_nil ?_
      refine N_block ?_
      refine N_then ?_
      refine G_region ?_
      refine W_run 3 [(0, .slice p1383 x1381.length c1384), (1, .int .i64 x1386), (2, .int .i64 x1387), (3, .slice p1390 x1388.length c1391), (9, .slice p1944 ap1938.length c1945), (10, .int .i64 (w64 (s1758.2 + 1)))] w1947 (by kernel_rfl) ?_
      refine W_nil ?_
      obtain rfl := Option.some.inj hm
      exact N_loop fun a ha => ⟨_, rfl, p1944, c1945, sg1946, (sg1771 ++ (sg1907 ++ [])), ho1948, M1951.pick [0, 3] (by kernel_rfl), ha.sub (by kernel_rfl)⟩
    refine G_cond_f (b := (decide (s1758.2 < (x1381.length : Int)))) hc1781 (by kernel_rfl) ?_
    refine G_exit ?_
    refine N_then_exit ?_
    refine N_then_exit ?_
    refine N_block_eq ?_
    obtain rfl := Option.some.inj hm
    obtain rfl := hout1760 _ rfl
    exact N_meet fun a ha => ⟨p1768, c1769, sg1770, sg1771, ho1772, M1763.pick [0, 1] (by kernel_rfl), ha.sub (by kernel_rfl)⟩
  intro a1953 w1954 ⟨p1775, c1776, sg1777, sg1778, ho1779, M1955, hS1956⟩
  refine N_use hS1956 ?_
  have hm := hmo1767
  refine N_then ?_
  refine G_seq ?_
  refine G_region ?_
  refine W_run 2 [(8, .slice p1775 out1765.length c1776)] w1954 (by kernel_rfl) ?_
  refine W_nil ?_
  refine N_then ?_
  refine G_ret ?_
  obtain rfl := Option.some.inj hm
  refine N_ret [.slice p1775 out1765.length c1776] (RVs_cons (RV_tmp (by kernel_rfl)) RVs_nil) ?_
  exact ⟨p1775, c1776, sg1777, sg1778, rfl, ho1779, M1955.pick [0, 1] (by kernel_rfl)⟩
theorem c_s_l18Owner (w : World) (x2073 : List Int) (p2075 : Option Addr) (c2076 : Nat) (h2077 : rdS Gx.encI w x2073 p2075 c2076) (x2078 : Int) (x2079 : Int) {r : (List Int)} (hm : M.s_l18Owner x2073 x2078 x2079 = some r) :
    Calls Try.prog 61 #[.slice p2075 x2073.length c2076, .int .i64 x2078, .int .i64 x2079] w fun e w' => ∃ (p2081 : Option Addr) (c2082 : Nat) (sg2083 : Seg), e = .returned (.slice p2081 r.length c2082) ∧ ownS Gx.encI r p2081 c2082 sg2083 ∧ Mem [] w w' [sg2083] := by
  unfold M.s_l18Owner at hm
  refine C_enter Try.func61 rfl (by kernel_rfl) ?_
  have M0 := Mem.refl [] w
  refine G_seq ?_
  refine G_region ?_
  refine W_run 1 [(0, .slice p2075 x2073.length c2076), (1, .int .i64 x2078), (2, .int .i64 x2079)] w (by kernel_rfl) ?_
  refine W_nil ?_
  refine N_then ?_
  refine G_seq ?_
  refine G_region ?_
  refine W_run 1 [(1, .int .i64 x2078), (2, .int .i64 x2079), (8, .slice p2075 x2073.length c2076)] w (by kernel_rfl) ?_
  obtain ⟨r2085, hr2085, hm⟩ := gx_bind hm
  refine W_call 71 #[.slice p2075 x2073.length c2076] (by kernel_rfl) (by kernel_rfl) ?_
  refine (c_s_l1Own w x2073 p2075 c2076 (h2077.mem0 M0) hr2085).mono ?_
  rintro e_ w2091 ⟨p2087, c2088, sg2089, rfl, ho2090, K2092⟩
  have M2093 := M0.call K2092
  refine ⟨_, rfl, ?_⟩
  refine W_run 1 [(1, .int .i64 x2078), (2, .int .i64 x2079), (7, .slice p2087 r2085.length c2088)] w2091 (by kernel_rfl) ?_
  refine W_nil ?_
  refine N_then ?_
  refine G_seq ?_
  refine G_region ?_
  refine W_run 3 [(7, .slice p2087 r2085.length c2088), (10, .slice p2087 r2085.length c2088), (11, .int .i64 x2078), (12, .int .i64 x2079)] w2091 (by kernel_rfl) ?_
  obtain ⟨y2094, hy2094, hm⟩ := gx_bind hm
  refine W_val (elemP p2087 (x2078.toNat * 1)) w2091 (by kernel_rfl) (E_index (E := Gx.encI) _ _ _ r2085.length c2088 .i64 x2078 1 (y := y2094) rfl (by kernel_rfl) (by kernel_rfl) (by kernel_rfl) (ho2090.rd M2093 0 (by kernel_rfl)) rfl hy2094) ?_
  refine W_storeE (E := Gx.encI) _ _ _ false 1 x2078.toNat 0 (x2078.toNat * 1) y2094 x2079 (.int .i64 x2079) 0 M2093 ho2090 (by kernel_rfl) (by kernel_rfl) rfl (by kernel_rfl) (by kernel_rfl) (by kernel_rfl) (by kernel_rfl) (by kernel_rfl) (by kernel_rfl) (by kernel_rfl) (gxIdx_spec hy2094).2 rfl ?_
  intro w2095 sg2097 ho2098 M2096
  refine W_conv 7 (.slice p2087 r2085.length c2088) (.slice p2087 (r2085.set x2078.toNat x2079).length c2088) (by kernel_rfl) (by rw [@List.length_set _ r2085 x2078.toNat x2079]) ?_
  refine W_conv 10 (.slice p2087 r2085.length c2088) (.slice p2087 (r2085.set x2078.toNat x2079).length c2088) (by kernel_rfl) (by rw [@List.length_set _ r2085 x2078.toNat x2079]) ?_
  refine W_nil ?_
  refine N_then ?_
  refine G_seq ?_
  refine G_region ?_
  refine W_run 2 [(6, .slice p2087 (r2085.set x2078.toNat x2079).length c2088)] w2095 (by kernel_rfl) ?_
  refine W_nil ?_
  refine N_then ?_
  refine G_ret ?_
  obtain rfl := Option.some.inj hm
  refine N_ret [.slice p2087 (r2085.set x2078.toNat x2079).length c2088] (RVs_cons (RV_tmp (by kernel_rfl)) RVs_nil) ?_
  exact ⟨p2087, c2088, sg2097, rfl, ho2098, M2096.pick [0] (by kernel_rfl)⟩
theorem c_s_l18Count (w : World) (x2182 : List Int) (p2184 : Option Addr) (c2185 : Nat) (h2186 : rdS Gx.encI w x2182 p2184 c2185) (x2187 : Int) {r : Int} (hm : M.s_l18Count x2182 x2187 = some r) :
    Calls Try.prog 65 #[.slice p2184 x2182.length c2185, .int .i64 x2187] w fun e w' => e = .returned (.int .i64 r) ∧ Mem [] w w' [] := by
  unfold M.s_l18Count at hm
  refine C_enter Try.func65 rfl (by kernel_rfl) ?_
  have M0 := Mem.refl [] w
  refine G_seq ?_
  refine G_region ?_
  refine W_run 1 [(0, .slice p2184 x2182.length c2185), (1, .int .i64 x2187)] w (by kernel_rfl) ?_
  refine W_nil ?_
  refine N_then ?_
  refine G_seq ?_
  refine G_region ?_
  refine W_run 1 [(0, .slice p2184 x2182.length c2185), (1, .int .i64 x2187), (5, .int .i64 0)] w (by kernel_rfl) ?_
  refine W_nil ?_
  refine N_then ?_
  refine G_seq ?_
  refine G_seq ?_
  refine G_region ?_
  refine W_run 1 [(0, .slice p2184 x2182.length c2185), (1, .int .i64 x2187), (5, .int .i64 0), (6, .int .i64 0)] w (by kernel_rfl) ?_
  refine W_nil ?_
  refine N_then ?_
  obtain ⟨out2217, hw2218, hmo2219⟩ := gx_bind hm
  refine G_meet (fun a w' => Mem [] w w' [] ∧ Sat Try.f65.ntmps [(5, .int .i64 out2217)] a) ?_ ?_
  · refine G_block ?_
    refine G_while (σ := Int × Int) (ρ := Int) (fun s2210 a w' => Mem [] w w' [] ∧ Sat Try.f65.ntmps [(0, .slice p2184 x2182.length c2185), (1, .int .i64 x2187), (5, .int .i64 s2210.1), (6, .int .i64 s2210.2)] a) hw2218 (fun a ha => ⟨M0.pick [] (by kernel_rfl), ha.sub (by kernel_rfl)⟩) ?_
    clear hm
    intro s2210 x2211 hm hout2212 a2213 w2214 ⟨M2215, hS2216⟩
    refine G_use hS2216 ?_
    refine G_seq ?_
    refine G_seq ?_
    refine G_region ?_
    refine W_run 4 [(0, .slice p2184 x2182.length c2185), (1, .int .i64 x2187), (5, .int .i64 s2210.1), (6, .int .i64 s2210.2), (10, .bool (decide (s2210.2 < (x2182.length : Int))))] w2214 (by kernel_rfl) ?_
    refine W_nil ?_
    refine N_then ?_
    rcases gx_bif hm with ⟨hc2221, hm⟩ | ⟨hc2221, hm⟩
    · refine G_cond_t (b := (decide (s2210.2 < (x2182.length : Int)))) hc2221 (by kernel_rfl) ?_
      refine G_skip ?_
      refine N_then ?_
      refine G_seq ?_
      refine G_block ?_
      refine G_seq ?_
      refine G_region ?_
      refine W_run 2 [(0, .slice p2184 x2182.length c2185), (1, .int .i64 x2187), (5, .int .i64 s2210.1), (6, .int .i64 s2210.2), (13, .slice p2184 x2182.length c2185), (14, .int .i64 s2210.2)] w2214 (by kernel_rfl) ?_
      obtain ⟨y2222, hy2222, hm⟩ := gx_bind hm
      refine W_val (elemP p2184 (s2210.2.toNat * 1)) w2214 (by kernel_rfl) (E_index (E := Gx.encI) _ _ _ x2182.length c2185 .i64 s2210.2 1 (y := y2222) rfl (by kernel_rfl) (by kernel_rfl) (by kernel_rfl) (h2186.mem0 M2215) rfl hy2222) ?_
      refine W_val (.int .i64 y2222) w2214 (by kernel_rfl) (E_loadE (E := Gx.encI) _ _ false 1 s2210.2 0 (s2210.2.toNat * 1) y2222 (.int .i64 y2222) rfl (by kernel_rfl) (by kernel_rfl) (by kernel_rfl) (h2186.mem0 M2215) hy2222 rfl) ?_
      refine W_run 2 [(0, .slice p2184 x2182.length c2185), (1, .int .i64 x2187), (5, .int .i64 s2210.1), (6, .int .i64 s2210.2), (18, .bool (y2222 == x2187))] w2214 (by kernel_rfl) ?_
      refine W_nil ?_
      refine N_then ?_
      obtain ⟨o2224, ho2225, hm2226⟩ := gx_bind hm
      refine G_meet (fun a w' => Mem [] w w' [] ∧ Sat Try.f65.ntmps [(0, .slice p2184 x2182.length c2185), (1, .int .i64 x2187), (5, .int .i64 o2224), (6, .int .i64 s2210.2)] a) ?_ ?_
      · have hm := ho2225
        rcases gx_bif hm with ⟨hc2227, hm⟩ | ⟨hc2227, hm⟩
        · refine G_cond_t (b := (y2222 == x2187)) hc2227 (by kernel_rfl) ?_
          refine G_region ?_
          refine W_run 3 [(0, .slice p2184 x2182.length c2185), (1, .int .i64 x2187), (5, .int .i64 (w64 (s2210.1 + 1))), (6, .int .i64 s2210.2)] w2214 (by kernel_rfl) ?_
          refine W_nil ?_
          obtain rfl := Option.some.inj hm
          exact N_meet fun a ha => ⟨M2215.pick [] (by kernel_rfl), ha.sub (by kernel_rfl)⟩
        refine G_cond_f (b := (y2222 == x2187)) hc2227 (by kernel_rfl) ?_
        refine G_skip ?_
        obtain rfl := Option.some.inj hm
        exact N_meet fun a ha => ⟨M2215.pick [] (by kernel_rfl), ha.sub (by kernel_rfl)⟩
      intro a2230 w2228 ⟨M2229, hS2231⟩
      refine N_use hS2231 ?_
      have hm := hm2226
      refine N_block ?_
      refine N_then ?_
      refine G_region ?_
      refine W_run 3 [(0, .slice p2184 x2182.length c2185), (1, .int .i64 x2187), (5, .int .i64 o2224), (6, .int .i64 (w64 (s2210.2 + 1)))] w2228 (by kernel_rfl) ?_
      refine W_nil ?_
      obtain rfl := Option.some.inj hm
      exact N_loop fun a ha => ⟨_, rfl, M2229.pick [] (by kernel_rfl), ha.sub (by kernel_rfl)⟩
    refine G_cond_f (b := (decide (s2210.2 < (x2182.length : Int)))) hc2221 (by kernel_rfl) ?_
    refine G_exit ?_
    refine N_then_exit ?_
    refine N_then_exit ?_
    refine N_block_eq ?_
    obtain rfl := Option.some.inj hm
    obtain rfl := hout2212 _ rfl
    exact N_meet fun a ha => ⟨M2215.pick [] (by kernel_rfl), ha.sub (by kernel_rfl)⟩
  intro a2232 w2233 ⟨M2234, hS2235⟩
  refine N_use hS2235 ?_
  have hm := hmo2219
  refine N_then ?_
  refine G_seq ?_
  refine G_region ?_
  refine W_run 2 [(4, .int .i64 out2217)] w2233 (by kernel_rfl) ?_
  refine W_nil ?_
  refine N_then ?_
  refine G_ret ?_
  obtain rfl := Option.some.inj hm
  refine N_ret [.int .i64 out2217] (RVs_cons (RV_tmp (by kernel_rfl)) RVs_nil) ?_
  exact ⟨rfl, M2234.pick [] (by kernel_rfl)⟩
theorem c_s_l1Put (w : World) (x2294 : List Int) (p2296 : Option Addr) (c2297 : Nat) (sg2298 : Seg) (ho2299 : ownS Gx.encI x2294 p2296 c2297 sg2298) (x2300 : Int) (hA : ∀ q ∈ List.flatten [sg2298], w.heap[q.1]? = some q.2) (hN : (idsOf [sg2298]).Nodup) {r : (List Int)} (hm : M.s_l1Put x2294 x2300 = some r) :
    Calls Try.prog 87 #[.slice p2296 x2294.length c2297, .int .i64 x2300] w fun e w' => ∃ (p2302 : Option Addr) (c2303 : Nat) (sg2304 : Seg), e = .returned (.slice p2302 r.length c2303) ∧ ownS Gx.encI r p2302 c2303 sg2304 ∧ Mem (idsOf [sg2298]) w w' [sg2304] := by
  unfold M.s_l1Put at hm
  refine C_enter Try.func87 rfl (by kernel_rfl) ?_
  have M0 := Mem.start' w [sg2298] hA hN
  refine G_seq ?_
  refine G_region ?_
  refine W_run 1 [(0, .slice p2296 x2294.length c2297), (1, .int .i64 x2300)] w (by kernel_rfl) ?_
  refine W_nil ?_
  refine N_then ?_
  refine G_seq ?_
  refine G_region ?_
  refine W_run 1 [(0, .slice p2296 x2294.length c2297), (1, .int .i64 x2300), (5, .int .i64 0)] w (by kernel_rfl) ?_
  refine W_nil ?_
  refine N_then ?_
  refine G_seq ?_
  obtain ⟨out2337, hw2338, hmo2339⟩ := gx_bind hm
  refine G_meet (fun a w' => Mem (idsOf [sg2298]) w w' [sg2298] ∧ Sat Try.f87.ntmps [(0, .slice p2296 x2294.length c2297), (1, .int .i64 x2300), (5, .int .i64 out2337)] a) ?_ ?_
  · refine G_block ?_
    refine G_while (σ := Int) (ρ := Int) (fun s2330 a w' => Mem (idsOf [sg2298]) w w' [sg2298] ∧ Sat Try.f87.ntmps [(0, .slice p2296 x2294.length c2297), (1, .int .i64 x2300), (5, .int .i64 s2330)] a) hw2338 (fun a ha => ⟨M0.pick [0] (by kernel_rfl), ha.sub (by kernel_rfl)⟩) ?_
    clear hm
    intro s2330 x2331 hm hout2332 a2333 w2334 ⟨M2335, hS2336⟩
    refine G_use hS2336 ?_
    refine G_seq ?_
    refine G_seq ?_
    obtain ⟨o2343, ho2344, hm2345⟩ := gx_bind hm
    refine G_meet (fun a w' => Mem (idsOf [sg2298]) w w' [sg2298] ∧ Sat Try.f87.ntmps [(0, .slice p2296 x2294.length c2297), (1, .int .i64 x2300), (5, .int .i64 s2330), (17, .bool o2343)] a) ?_ ?_
    · have hm := ho2344
      refine G_region ?_
      refine W_run 5 [(0, .slice p2296 x2294.length c2297), (1, .int .i64 x2300), (5, .int .i64 s2330), (10, .bool (decide (s2330 < (x2294.length : Int))))] w2334 (by kernel_rfl) ?_
      rcases gx_bif hm with ⟨hc2346, hm⟩ | ⟨hc2346, hm⟩
      · refine W_known 10 true (by kernel_rfl) hc2346 ?_
        refine W_run 2 [(0, .slice p2296 x2294.length c2297), (1, .int .i64 x2300), (5, .int .i64 s2330), (10, .bool true), (11, .slice p2296 x2294.length c2297), (12, .int .i64 s2330)] w2334 (by kernel_rfl) ?_
        obtain ⟨y2347, hy2347, hm⟩ := gx_bind hm
        refine W_val (elemP p2296 (s2330.toNat * 1)) w2334 (by kernel_rfl) (E_index (E := Gx.encI) _ _ _ x2294.length c2297 .i64 s2330 1 (y := y2347) rfl (by kernel_rfl) (by kernel_rfl) (by kernel_rfl) (ho2299.rd M2335 0 (by kernel_rfl)) rfl hy2347) ?_
        refine W_val (.int .i64 y2347) w2334 (by kernel_rfl) (E_loadE (E := Gx.encI) _ _ false 1 s2330 0 (s2330.toNat * 1) y2347 (.int .i64 y2347) rfl (by kernel_rfl) (by kernel_rfl) (by kernel_rfl) (ho2299.rd M2335 0 (by kernel_rfl)) hy2347 rfl) ?_
        refine W_run 3 [(0, .slice p2296 x2294.length c2297), (1, .int .i64 x2300), (5, .int .i64 s2330), (17, .bool (decide (y2347 < x2300)))] w2334 (by kernel_rfl) ?_
        refine W_nil ?_
        obtain rfl := Option.some.inj hm
        exact N_meet fun a ha => ⟨M2335.pick [0] (by kernel_rfl), ha.sub (by kernel_rfl)⟩
      refine W_known 10 false (by kernel_rfl) hc2346 ?_
      refine W_run 7 [(0, .slice p2296 x2294.length c2297), (1, .int .i64 x2300), (5, .int .i64 s2330), (17, .bool false)] w2334 (by kernel_rfl) ?_
      refine W_nil ?_
      obtain rfl := Option.some.inj hm
      exact N_meet fun a ha => ⟨M2335.pick [0] (by kernel_rfl), ha.sub (by kernel_rfl)⟩
    intro a2350 w2348 ⟨M2349, hS2351⟩
    refine N_use hS2351 ?_
    have hm := hm2345
    refine N_then ?_
    rcases gx_bif hm with ⟨hc2352, hm⟩ | ⟨hc2352, hm⟩
    · refine G_cond_t (b := o2343) hc2352 (by kernel_rfl) ?_
      refine G_skip ?_
      refine N_then ?_
      refine G_block ?_
      refine G_region ?_
      refine W_run 3 [(0, .slice p2296 x2294.length c2297), (1, .int .i64 x2300), (5, .int .i64 (w64 (s2330 + 1)))] w2348 (by kernel_rfl) ?_
      refine W_nil ?_
      refine N_block ?_
      obtain rfl := Option.some.inj hm
      exact N_loop fun a ha => ⟨_, rfl, M2349.pick [0] (by kernel_rfl), ha.sub (by kernel_rfl)⟩
    refine G_cond_f (b := o2343) hc2352 (by kernel_rfl) ?_
    refine G_exit ?_
    refine N_then_exit ?_
    refine N_then_exit ?_
    refine N_block_eq ?_
    obtain rfl := Option.some.inj hm
    obtain rfl := hout2332 _ rfl
    exact N_meet fun a ha => ⟨M2349.pick [0] (by kernel_rfl), ha.sub (by kernel_rfl)⟩
  intro a2353 w2354 ⟨M2355, hS2356⟩
  refine N_use hS2356 ?_
  have hm := hmo2339
  refine N_then ?_
  refine G_seq ?_
  refine G_seq ?_
  obtain ⟨o2359, ho2360, hm2361⟩ := gx_bind hm
  refine G_meet (fun a w' => Mem (idsOf [sg2298]) w w' [sg2298] ∧ Sat Try.f87.ntmps [(0, .slice p2296 x2294.length c2297), (1, .int .i64 x2300), (5, .int .i64 out2337), (31, .bool o2359)] a) ?_ ?_
  · have hm := ho2360
    refine G_region ?_
    refine W_run 5 [(0, .slice p2296 x2294.length c2297), (1, .int .i64 x2300), (5, .int .i64 out2337), (24, .bool (decide (out2337 < (x2294.length : Int))))] w2354 (by kernel_rfl) ?_
    rcases gx_bif hm with ⟨hc2362, hm⟩ | ⟨hc2362, hm⟩
    · refine W_known 24 true (by kernel_rfl) hc2362 ?_
      refine W_run 2 [(0, .slice p2296 x2294.length c2297), (1, .int .i64 x2300), (5, .int .i64 out2337), (24, .bool true), (25, .slice p2296 x2294.length c2297), (26, .int .i64 out2337)] w2354 (by kernel_rfl) ?_
      obtain ⟨y2363, hy2363, hm⟩ := gx_bind hm
      refine W_val (elemP p2296 (out2337.toNat * 1)) w2354 (by kernel_rfl) (E_index (E := Gx.encI) _ _ _ x2294.length c2297 .i64 out2337 1 (y := y2363) rfl (by kernel_rfl) (by kernel_rfl) (by kernel_rfl) (ho2299.rd M2355 0 (by kernel_rfl)) rfl hy2363) ?_
      refine W_val (.int .i64 y2363) w2354 (by kernel_rfl) (E_loadE (E := Gx.encI) _ _ false 1 out2337 0 (out2337.toNat * 1) y2363 (.int .i64 y2363) rfl (by kernel_rfl) (by kernel_rfl) (by kernel_rfl) (ho2299.rd M2355 0 (by kernel_rfl)) hy2363 rfl) ?_
      refine W_run 3 [(0, .slice p2296 x2294.length c2297), (1, .int .i64 x2300), (5, .int .i64 out2337), (31, .bool (y2363 == x2300))] w2354 (by kernel_rfl) ?_
      refine W_nil ?_
      obtain rfl := Option.some.inj hm
      exact N_meet fun a ha => ⟨M2355.pick [0] (by kernel_rfl), ha.sub (by kernel_rfl)⟩
    refine W_known 24 false (by kernel_rfl) hc2362 ?_
    refine W_run 7 [(0, .slice p2296 x2294.length c2297), (1, .int .i64 x2300), (5, .int .i64 out2337), (31, .bool false)] w2354 (by kernel_rfl) ?_
    refine W_nil ?_
    obtain rfl := Option.some.inj hm
    exact N_meet fun a ha => ⟨M2355.pick [0] (by kernel_rfl), ha.sub (by kernel_rfl)⟩
  intro a2366 w2364 ⟨M2365, hS2367⟩
  refine N_use hS2367 ?_
  have hm := hm2361
  refine N_then ?_
  rcases gx_bif hm with ⟨hc2368, hm⟩ | ⟨hc2368, hm⟩
  · refine G_cond_t (b := o2359) hc2368 (by kernel_rfl) ?_
    refine G_seq ?_
    refine G_region ?_
    refine W_run 2 [(4, .slice p2296 x2294.length c2297)] w2364 (by kernel_rfl) ?_
    refine W_nil ?_
    refine N_then ?_
    refine G_ret ?_
    refine N_then_ret ?_
    obtain rfl := Option.some.inj hm
    refine N_ret [.slice p2296 x2294.length c2297] (RVs_cons (RV_tmp (by kernel_rfl)) RVs_nil) ?_
    exact ⟨p2296, c2297, sg2298, rfl, ho2299, M2365.pick [0] (by kernel_rfl)⟩
  refine G_cond_f (b := o2359) hc2368 (by kernel_rfl) ?_
  refine G_skip ?_
  refine N_then ?_
  refine G_seq ?_
  obtain ⟨ys2376, hys2376, hm⟩ := gx_bind hm
  obtain ⟨ap2378, hap2378, hm⟩ := gx_bind hm
  obtain ⟨ap2389, hap2389, hm⟩ := gx_bind hm
  obtain ⟨ys2395, hys2395, hm⟩ := gx_bind hm
  refine G_sub [(0, .slice p2296 x2294.length c2297), (1, .int .i64 x2300), (5, .int .i64 out2337), (31, .bool o2359)] (by kernel_rfl) ?_
  refine G_dagL 11 [[], [], [], [1, 2], [0, 3], [], [5], [4, 6], [], [], [8, 9]] [[], [], [], [], [0], [], [], [4], [], [], []] [[], [], [], [], [], [], [], [6], [], [], []] [[], [], [], [], [], [], [], [], [], [], []] [[], [], [], [], [], [], [], [], [], [], []] [[], [], [], [], [], [], [], [], [], [], []] (fun _ => []) (fun i => ([fun f v s => ∃ (p2372 : Option Addr) (c2373 : Nat), v = (.slice p2372 ([] : List Int).length c2373 : Value) ∧ ownS Gx.encI ([] : List Int) p2372 c2373 s, fun f v s => v = (.slice p2296 x2294.length c2297 : Value) ∧ s = [], fun f v s => v = (.int .i64 out2337 : Value) ∧ s = [], fun f v s => v = (.slice (subP p2296 (0 : Int).toNat c2297 1) ys2376.length (c2297 - (0 : Int).toNat) : Value) ∧ s = [], fun f v s => ∃ (p2380 : Option Addr) (c2381 : Nat), v = (.slice p2380 ap2378.length c2381 : Value) ∧ ownS Gx.encI ap2378 p2380 c2381 s, fun f v s => v = (.int .i64 x2300 : Value) ∧ s = [], fun f v s => ∃ (p2385 : Option Addr) (c2386 : Nat), v = (.slice p2385 [x2300].length c2386 : Value) ∧ ownS Gx.encI [x2300] p2385 c2386 s, fun f v s => ∃ (p2391 : Option Addr) (c2392 : Nat), v = (.slice p2391 ap2389.length c2392 : Value) ∧ ownS Gx.encI ap2389 p2391 c2392 s, fun f v s => v = (.slice p2296 x2294.length c2297 : Value) ∧ s = [], fun f v s => v = (.int .i64 out2337 : Value) ∧ s = [], fun f v s => v = (.slice (subP p2296 out2337.toNat c2297 1) ys2395.length (c2297 - out2337.toNat) : Value) ∧ s = []] : List ((Nat → Value) → Value → Seg → Prop)).getD i (fun _ _ _ => False)) (fun j f v => ∃ s, (fun i => ([fun f v s => ∃ (p2372 : Option Addr) (c2373 : Nat), v = (.slice p2372 ([] : List Int).length c2373 : Value) ∧ ownS Gx.encI ([] : List Int) p2372 c2373 s, fun f v s => v = (.slice p2296 x2294.length c2297 : Value) ∧ s = [], fun f v s => v = (.int .i64 out2337 : Value) ∧ s = [], fun f v s => v = (.slice (subP p2296 (0 : Int).toNat c2297 1) ys2376.length (c2297 - (0 : Int).toNat) : Value) ∧ s = [], fun f v s => ∃ (p2380 : Option Addr) (c2381 : Nat), v = (.slice p2380 ap2378.length c2381 : Value) ∧ ownS Gx.encI ap2378 p2380 c2381 s, fun f v s => v = (.int .i64 x2300 : Value) ∧ s = [], fun f v s => ∃ (p2385 : Option Addr) (c2386 : Nat), v = (.slice p2385 [x2300].length c2386 : Value) ∧ ownS Gx.encI [x2300] p2385 c2386 s, fun f v s => ∃ (p2391 : Option Addr) (c2392 : Nat), v = (.slice p2391 ap2389.length c2392 : Value) ∧ ownS Gx.encI ap2389 p2391 c2392 s, fun f v s => v = (.slice p2296 x2294.length c2297 : Value) ∧ s = [], fun f v s => v = (.int .i64 out2337 : Value) ∧ s = [], fun f v s => v = (.slice (subP p2296 out2337.toNat c2297 1) ys2395.length (c2297 - out2337.toNat) : Value) ∧ s = []] : List ((Nat → Value) → Value → Seg → Prop)).getD i (fun _ _ _ => False)) j f v s) [] [6, 7, 10] [6, 7] (fun _ _ _ s h => ⟨s, h⟩) (by kernel_rfl) (by kernel_rfl) (M2365.preNil 11) (by kernel_rfl) (by kernel_rfl) (by kernel_rfl) (by kernel_rfl) (allOb_cons ?_ (allOb_cons ?_ (allOb_cons ?_ (allOb_cons ?_ (allOb_cons ?_ (allOb_cons ?_ (allOb_cons ?_ (allOb_cons ?_ (allOb_cons ?_ (allOb_cons ?_ (allOb_cons ?_ allOb_nil))))))))))) ?_
  · intro g2369 f2370
    intro R w2397 M2398
    refine W_lit (E := Gx.encI) ([] : List Int) 0 [] 3 M2398 (by kernel_rfl) (by kernel_rfl) (by kernel_rfl) (by kernel_rfl) (by kernel_rfl) ?_
    intro p2372 c2373 sg2374 w2399 ho2375 M2400
    exact W_nil (ob_end (.slice p2372 ([] : List Int).length c2373) sg2374 rfl (by kernel_rfl) ⟨p2372, c2373, rfl, ho2375⟩ (Mem.mid M2400))
  · intro g2369 f2370
    intro R w2401 M2402
    refine W_run 1 [(34, .slice p2296 x2294.length c2297)] w2401 (by kernel_rfl) ?_
    exact W_nil (ob_end (.slice p2296 x2294.length c2297) [] rfl (by kernel_rfl) ⟨by kernel_rfl, rfl⟩ M2402)
  · intro g2369 f2370
    intro R w2405 M2406
    refine W_run 1 [(35, .int .i64 out2337)] w2405 (by kernel_rfl) ?_
    exact W_nil (ob_end (.int .i64 out2337) [] rfl (by kernel_rfl) ⟨by kernel_rfl, rfl⟩ M2406)
  · intro g2369 f2370
    intro v1_ hb1_
    obtain ⟨rfl, _⟩ := hb1_
    intro v2_ hb2_
    obtain ⟨rfl, _⟩ := hb2_
    intro R w2409 M2410
    refine W_val (.slice (subP p2296 (0 : Int).toNat c2297 1) ys2376.length (c2297 - (0 : Int).toNat)) w2409 (by kernel_rfl) (E_slice (E := Gx.encI) _ _ _ _ x2294.length 0 out2337 rfl (by kernel_rfl) (Or.inl ⟨rfl, rfl⟩) (Or.inr ⟨_, rfl, by kernel_rfl⟩) (by kernel_rfl) (ho2299.rd M2410 0 (by kernel_rfl)) rfl hys2376) ?_
    exact W_nil (ob_end (.slice (subP p2296 (0 : Int).toNat c2297 1) ys2376.length (c2297 - (0 : Int).toNat)) [] rfl (by kernel_rfl) ⟨by kernel_rfl, rfl⟩ M2410)
  · intro g2369 f2370
    intro v0_ hb0_
    obtain ⟨p2372, c2373, rfl, ho2375⟩ := hb0_
    intro v3_ hb3_
    obtain ⟨rfl, _⟩ := hb3_
    intro R w2413 M2414
    refine W_append (E := Gx.encI) _ _ _ 8 [.int .i64 0] 2 (c2297 - (0 : Int).toNat) M2414 ho2375 (by kernel_rfl) (by kernel_rfl) (by kernel_rfl) rfl (by kernel_rfl) (by kernel_rfl) (by kernel_rfl) (by kernel_rfl) (by kernel_rfl) (by kernel_rfl) ((ho2299.rd M2414 0 (by kernel_rfl)).sliceM hys2376) hap2378 ?_
    intro p2380 c2381 sg2382 w2415 ho2383 M2416
    exact W_nil (ob_end (.slice p2380 ap2378.length c2381) sg2382 rfl (by kernel_rfl) ⟨p2380, c2381, rfl, ho2383⟩ (Mem.takeOver M2416))
  · intro g2369 f2370
    intro R w2417 M2418
    refine W_run 1 [(38, .int .i64 x2300)] w2417 (by kernel_rfl) ?_
    exact W_nil (ob_end (.int .i64 x2300) [] rfl (by kernel_rfl) ⟨by kernel_rfl, rfl⟩ M2418)
  · intro g2369 f2370
    intro v5_ hb5_
    obtain ⟨rfl, _⟩ := hb5_
    intro R w2421 M2422
    refine W_lit (E := Gx.encI) [x2300] 1 [.int .i64 x2300] 3 M2422 (by kernel_rfl) (by kernel_rfl) (by kernel_rfl) (by kernel_rfl) (by kernel_rfl) ?_
    intro p2385 c2386 sg2387 w2423 ho2388 M2424
    exact W_nil (ob_end (.slice p2385 [x2300].length c2386) sg2387 rfl (by kernel_rfl) ⟨p2385, c2386, rfl, ho2388⟩ (Mem.mid M2424))
  · intro g2369 f2370
    intro v4_ hb4_
    obtain ⟨p2380, c2381, rfl, ho2383⟩ := hb4_
    intro v6_ hb6_
    obtain ⟨p2385, c2386, rfl, ho2388⟩ := hb6_
    intro R w2425 M2426
    refine W_append (E := Gx.encI) _ _ _ 8 [.int .i64 0] 2 c2386 M2426 ho2383 (by kernel_rfl) (by kernel_rfl) (by kernel_rfl) rfl (by kernel_rfl) (by kernel_rfl) (by kernel_rfl) (by kernel_rfl) (by kernel_rfl) (by kernel_rfl) (ho2388.rd M2426 3 (by kernel_rfl)) hap2389 ?_
    intro p2391 c2392 sg2393 w2427 ho2394 M2428
    exact W_nil (ob_end (.slice p2391 ap2389.length c2392) sg2393 rfl (by kernel_rfl) ⟨p2391, c2392, rfl, ho2394⟩ (Mem.takeOver M2428))
  · intro g2369 f2370
    intro R w2429 M2430
    refine W_run 1 [(41, .slice p2296 x2294.length c2297)] w2429 (by kernel_rfl) ?_
    exact W_nil (ob_end (.slice p2296 x2294.length c2297) [] rfl (by kernel_rfl) ⟨by kernel_rfl, rfl⟩ M2430)
  · intro g2369 f2370
    intro R w2433 M2434
    refine W_run 1 [(42, .int .i64 out2337)] w2433 (by kernel_rfl) ?_
    exact W_nil (ob_end (.int .i64 out2337) [] rfl (by kernel_rfl) ⟨by kernel_rfl, rfl⟩ M2434)
  · intro g2369 f2370
    intro v8_ hb8_
    obtain ⟨rfl, _⟩ := hb8_
    intro v9_ hb9_
    obtain ⟨rfl, _⟩ := hb9_
    intro R w2437 M2438
    refine W_val (.slice (subP p2296 out2337.toNat c2297 1) ys2395.length (c2297 - out2337.toNat)) w2437 (by kernel_rfl) (E_slice (E := Gx.encI) _ _ _ _ x2294.length out2337 (x2294.length : Int) rfl (by kernel_rfl) (Or.inr ⟨_, rfl, by kernel_rfl⟩) (Or.inl ⟨rfl, rfl⟩) (by kernel_rfl) (ho2299.rd M2438 0 (by kernel_rfl)) rfl hys2395) ?_
    exact W_nil (ob_end (.slice (subP p2296 out2337.toNat c2297 1) ys2395.length (c2297 - out2337.toNat)) [] rfl (by kernel_rfl) ⟨by kernel_rfl, rfl⟩ M2438)
  intro g2369 f2370
  intro v6_ hb6_
  obtain ⟨p2385, c2386, rfl, ho2388⟩ := hb6_
  intro v7_ hb7_
  obtain ⟨p2391, c2392, rfl, ho2394⟩ := hb7_
  intro v10_ hb10_
  obtain ⟨rfl, _⟩ := hb10_
  intro w2441 M2442
  have M2443 : Mem (idsOf [sg2298]) w w2441 [sg2298, (g2369 6), (g2369 7)] := M2442
  obtain ⟨ap2444, hap2444, hm⟩ := gx_bind hm
  refine W_append (E := Gx.encI) _ _ _ 8 [.int .i64 0] 2 (c2297 - out2337.toNat) M2443 ho2394 (by kernel_rfl) (by kernel_rfl) (by kernel_rfl) rfl (by kernel_rfl) (by kernel_rfl) (by kernel_rfl) (by kernel_rfl) (by kernel_rfl) (by kernel_rfl) ((ho2299.rd M2443 0 (by kernel_rfl)).sliceM hys2395) hap2444 ?_
  intro p2445 c2446 sg2447 w2448 ho2449 M2450
  refine W_run 1 [(4, .slice p2445 ap2444.length c2446)] w2448 (by kernel_rfl) ?_
  refine W_nil ?_
  refine N_then ?_
  refine G_ret ?_
  obtain rfl := Option.some.inj hm
  refine N_ret [.slice p2445 ap2444.length c2446] (RVs_cons (RV_tmp (by kernel_rfl)) RVs_nil) ?_
  exact ⟨p2445, c2446, sg2447, rfl, ho2449, M2450.pick [2] (by kernel_rfl)⟩
theorem c_s_l18Step (w : World) (x2030 : List Int) (p2032 : Option Addr) (c2033 : Nat) (h2034 : rdS Gx.encI w x2030 p2032 c2033) (x2035 : List Balloon) (p2037 : Option Addr) (c2038 : Nat) (h2039 : rdD deepBalloon w x2035 p2037 c2038) (x2040 : Int) (x2041 : Int) {r : (List Int) × (List Balloon) × Bool} (hm : M.s_l18Step x2030 x2035 x2040 x2041 = some r) :
    Calls Try.prog 68 #[.slice p2032 x2030.length c2033, .slice p2037 x2035.length c2038, .int .i64 x2040, .int .i64 x2041] w fun e w' => ∃ (p2043 : Option Addr) (c2044 : Nat) (sg2045 : Seg), ∃ (p2047 : Option Addr) (c2048 : Nat) (sg2049 : Seg) (sg2050 : Seg), e = .returned (.tuple #[.slice p2043 r.1.length c2044, .slice p2047 r.2.1.length c2048, .bool r.2.2]) ∧ (r.2.2 = true → ownS Gx.encI r.1 p2043 c2044 sg2045) ∧ (r.2.2 = true → ownD deepBalloon r.2.1 p2047 c2048 sg2049 sg2050) ∧ Mem [] w w' [sg2045, sg2049, sg2050] := by
  unfold M.s_l18Step at hm
  refine C_enter Try.func68 rfl (by kernel_rfl) ?_
  have M0 := Mem.refl [] w
  refine G_seq ?_
  refine G_region ?_
  refine W_run 3 [(0, .slice p2032 x2030.length c2033), (1, .slice p2037 x2035.length c2038), (2, .int .i64 x2040), (3, .int .i64 x2041)] w (by kernel_rfl) ?_
  refine W_nil ?_
  refine N_then ?_
  refine G_seq ?_
  refine G_region ?_
  refine W_run 2 [(0, .slice p2032 x2030.length c2033), (1, .slice p2037 x2035.length c2038), (2, .int .i64 x2040), (3, .int .i64 x2041), (13, .slice p2037 x2035.length c2038), (14, .int .i64 x2040)] w (by kernel_rfl) ?_
  obtain ⟨y2053, hy2053, hm⟩ := gx_bind hm
  obtain ⟨zs2054, hz2055, hr2056, hi2057⟩ := id h2039
  obtain ⟨g2058, hg2059⟩ := gxIdx_fst hz2055 hy2053
  refine W_val (elemP p2037 (x2040.toNat * 3)) w (by kernel_rfl) (E_index (E := deepBalloon.E) _ _ _ x2035.length c2038 .i64 x2040 3 (y := (y2053, g2058)) rfl (by kernel_rfl) (by kernel_rfl) (by kernel_rfl) (hr2056.mem0 M0) (len_fst hz2055) hg2059) ?_
  refine W_val (.agg #[.int .i64 y2053.Guest, .int .i64 y2053.Goal, .slice ((g2058 0).1) y2053.Gave.length ((g2058 0).2)]) w (by kernel_rfl) (E_loadE (E := deepBalloon.E) _ _ true 3 x2040 0 (x2040.toNat * 3) (y2053, g2058) (.agg #[.int .i64 y2053.Guest, .int .i64 y2053.Goal, .slice ((g2058 0).1) y2053.Gave.length ((g2058 0).2)]) rfl (by kernel_rfl) (by kernel_rfl) (by kernel_rfl) (hr2056.mem0 M0) hg2059 rfl) ?_
  refine W_new (fun b => .pointer (some ⟨b, 0, none⟩)) (.cells ⟨[.int .i64 0, .int .i64 0, .slice none 0 0]⟩ 50 (0, 0)) M0 rfl (by kernel_rfl) (by kernel_rfl) ?_
  intro b2063 w2064 M2065
  refine W_store _ _ _ true 3 b2063 0 [.int .i64 0, .int .i64 0, .slice none 0 0] 50 (.agg #[.int .i64 y2053.Guest, .int .i64 y2053.Goal, .slice ((g2058 0).1) y2053.Gave.length ((g2058 0).2)]) 0 [.int .i64 y2053.Guest, .int .i64 y2053.Goal, .slice ((g2058 0).1) y2053.Gave.length ((g2058 0).2)] M2065 (by kernel_rfl) rfl (by kernel_rfl) (by kernel_rfl) (by kernel_rfl) (by kernel_rfl) (by kernel_rfl) (by kernel_rfl) (by kernel_rfl) (by kernel_rfl) ?_
  intro w2066 M2067
  refine W_nil ?_
  refine N_then ?_
  refine G_seq ?_
  refine G_seq ?_
  refine G_region ?_
  refine W_run 2 [(0, .slice p2032 x2030.length c2033), (1, .slice p2037 x2035.length c2038), (2, .int .i64 x2040), (11, .pointer (some ⟨b2063, 0, none⟩)), (18, .bool (decide (x2041 < 0)))] w2066 (by kernel_rfl) ?_
  refine W_nil ?_
  refine N_then ?_
  rcases gx_bif hm with ⟨hc2068, hm⟩ | ⟨hc2068, hm⟩
  · refine G_cond_t (b := (decide (x2041 < 0))) hc2068 (by kernel_rfl) ?_
    refine G_seq ?_
    refine G_seq ?_
    refine G_region ?_
    refine W_run 1 [(0, .slice p2032 x2030.length c2033), (1, .slice p2037 x2035.length c2038), (2, .int .i64 x2040), (11, .pointer (some ⟨b2063, 0, none⟩)), (19, .pointer (some ⟨b2063, 2, none⟩))] w2066 (by kernel_rfl) ?_
    refine W_val (.slice ((g2058 0).1) y2053.Gave.length ((g2058 0).2)) w2066 (by kernel_rfl) (E_load (e := 50) (fr := (0, 0)) _ _ false 1 b2063 2 [.int .i64 y2053.Guest, .int .i64 y2053.Goal, .slice ((g2058 0).1) y2053.Gave.length ((g2058 0).2)] (.slice ((g2058 0).1) y2053.Gave.length ((g2058 0).2)) rfl (by kernel_rfl) (by kernel_rfl) (by kernel_rfl) (M2067.blk 0 (b := b2063) (o := .cells ⟨[.int .i64 y2053.Guest, .int .i64 y2053.Goal, .slice ((g2058 0).1) y2053.Gave.length ((g2058 0).2)]⟩ 50 (0, 0)) (by kernel_rfl))) ?_
    refine W_run 2 [(0, .slice p2032 x2030.length c2033), (1, .slice p2037 x2035.length c2038), (2, .int .i64 x2040), (11, .pointer (some ⟨b2063, 0, none⟩)), (21, .int .i64 (y2053.Gave.length : Int)), (22, .pointer (some ⟨b2063, 1, none⟩))] w2066 (by kernel_rfl) ?_
    refine W_val (.int .i64 y2053.Goal) w2066 (by kernel_rfl) (E_load (e := 50) (fr := (0, 0)) _ _ false 1 b2063 1 [.int .i64 y2053.Guest, .int .i64 y2053.Goal, .slice ((g2058 0).1) y2053.Gave.length ((g2058 0).2)] (.int .i64 y2053.Goal) rfl (by kernel_rfl) (by kernel_rfl) (by kernel_rfl) (M2067.blk 0 (b := b2063) (o := .cells ⟨[.int .i64 y2053.Guest, .int .i64 y2053.Goal, .slice ((g2058 0).1) y2053.Gave.length ((g2058 0).2)]⟩ 50 (0, 0)) (by kernel_rfl))) ?_
    refine W_run 1 [(0, .slice p2032 x2030.length c2033), (1, .slice p2037 x2035.length c2038), (2, .int .i64 x2040), (11, .pointer (some ⟨b2063, 0, none⟩)), (24, .bool (decide ((y2053.Gave.length : Int) ≤ y2053.Goal)))] w2066 (by kernel_rfl) ?_
    refine W_nil ?_
    refine N_then ?_
    rcases gx_bif hm with ⟨hc2069, hm⟩ | ⟨hc2069, hm⟩
    · refine G_cond_t (b := (decide ((y2053.Gave.length : Int) ≤ y2053.Goal))) hc2069 (by kernel_rfl) ?_
      refine G_seq ?_
      refine G_region ?_
      refine W_run 5 [(8, .slice p2032 x2030.length c2033), (9, .slice p2037 x2035.length c2038), (10, .bool false)] w2066 (by kernel_rfl) ?_
      refine W_nil ?_
      refine N_then ?_
      refine G_ret ?_
      refine N_then_ret ?_
      refine N_then_ret ?_
      obtain rfl := Option.some.inj hm
      refine N_ret [.slice p2032 x2030.length c2033, .slice p2037 x2035.length c2038, .bool false] (RVs_cons (RV_tmp (by kernel_rfl)) (RVs_cons (RV_tmp (by kernel_rfl)) (RVs_cons (RV_tmp (by kernel_rfl)) RVs_nil))) ?_
      exact ⟨p2032, c2033, [], p2037, c2038, [], [], rfl, (fun h_ => by cases h_), (fun h_ => by cases h_), M2067.pick [100000, 100001, 100002] (by kernel_rfl)⟩
    refine G_cond_f (b := (decide ((y2053.Gave.length : Int) ≤ y2053.Goal))) hc2069 (by kernel_rfl) ?_
    refine G_skip ?_
    refine N_then ?_
    refine G_seq ?_
    obtain ⟨y2072, hy2072, hm⟩ := gx_bind hm
    obtain ⟨r2099, hr2099, hm⟩ := gx_bind hm
    obtain ⟨ys2105, hys2105, hm⟩ := gx_bind hm
    refine G_sub [(0, .slice p2032 x2030.length c2033), (1, .slice p2037 x2035.length c2038), (2, .int .i64 x2040), (11, .pointer (some ⟨b2063, 0, none⟩)), (24, .bool (decide ((y2053.Gave.length : Int) ≤ y2053.Goal)))] (by kernel_rfl) ?_
    refine G_dagL 15 [[], [], [1], [2], [3], [], [5], [0, 4, 6], [], [], [], [10], [], [12], [13]] [[], [], [], [], [], [], [], [], [], [], [], [], [], [], []] [[], [], [], [], [], [], [], [], [], [], [], [], [], [], []] [[], [], [], [], [], [], [], [], [], [], [], [], [], [], []] [[], [], [], [], [], [], [], [], [], [], [], [], [], [], []] [[], [], [], [], [], [], [], [], [], [], [], [], [], [], []] (fun _ => []) (fun i => ([fun f v s => v = (.slice p2032 x2030.length c2033 : Value) ∧ s = [], fun f v s => v = (.pointer (some ⟨b2063, 2, none⟩) : Value) ∧ s = [], fun f v s => v = (.slice ((g2058 0).1) y2053.Gave.length ((g2058 0).2) : Value) ∧ s = [], fun f v s => v = (elemP ((g2058 0).1) ((0 : Int).toNat * 1) : Value) ∧ s = [], fun f v s => v = (.int .i64 y2072 : Value) ∧ s = [], fun f v s => v = (.pointer (some ⟨b2063, 0, none⟩) : Value) ∧ s = [], fun f v s => v = (.int .i64 y2053.Guest : Value) ∧ s = [], fun f v s => ∃ (p2101 : Option Addr) (c2102 : Nat), v = (.slice p2101 r2099.length c2102 : Value) ∧ ownS Gx.encI r2099 p2101 c2102 s, fun f v s => v = (.slice p2037 x2035.length c2038 : Value) ∧ s = [], fun f v s => v = (.int .i64 x2040 : Value) ∧ s = [], fun f v s => v = (.pointer (some ⟨b2063, 1, none⟩) : Value) ∧ s = [], fun f v s => v = (.int .i64 y2053.Goal : Value) ∧ s = [], fun f v s => v = (.pointer (some ⟨b2063, 2, none⟩) : Value) ∧ s = [], fun f v s => v = (.slice ((g2058 0).1) y2053.Gave.length ((g2058 0).2) : Value) ∧ s = [], fun f v s => v = (.slice (subP ((g2058 0).1) (1 : Int).toNat ((g2058 0).2) 1) ys2105.length (((g2058 0).2) - (1 : Int).toNat) : Value) ∧ s = []] : List ((Nat → Value) → Value → Seg → Prop)).getD i (fun _ _ _ => False)) (fun j f v => ∃ s, (fun i => ([fun f v s => v = (.slice p2032 x2030.length c2033 : Value) ∧ s = [], fun f v s => v = (.pointer (some ⟨b2063, 2, none⟩) : Value) ∧ s = [], fun f v s => v = (.slice ((g2058 0).1) y2053.Gave.length ((g2058 0).2) : Value) ∧ s = [], fun f v s => v = (elemP ((g2058 0).1) ((0 : Int).toNat * 1) : Value) ∧ s = [], fun f v s => v = (.int .i64 y2072 : Value) ∧ s = [], fun f v s => v = (.pointer (some ⟨b2063, 0, none⟩) : Value) ∧ s = [], fun f v s => v = (.int .i64 y2053.Guest : Value) ∧ s = [], fun f v s => ∃ (p2101 : Option Addr) (c2102 : Nat), v = (.slice p2101 r2099.length c2102 : Value) ∧ ownS Gx.encI r2099 p2101 c2102 s, fun f v s => v = (.slice p2037 x2035.length c2038 : Value) ∧ s = [], fun f v s => v = (.int .i64 x2040 : Value) ∧ s = [], fun f v s => v = (.pointer (some ⟨b2063, 1, none⟩) : Value) ∧ s = [], fun f v s => v = (.int .i64 y2053.Goal : Value) ∧ s = [], fun f v s => v = (.pointer (some ⟨b2063, 2, none⟩) : Value) ∧ s = [], fun f v s => v = (.slice ((g2058 0).1) y2053.Gave.length ((g2058 0).2) : Value) ∧ s = [], fun f v s => v = (.slice (subP ((g2058 0).1) (1 : Int).toNat ((g2058 0).2) 1) ys2105.length (((g2058 0).2) - (1 : Int).toNat) : Value) ∧ s = []] : List ((Nat → Value) → Value → Seg → Prop)).getD i (fun _ _ _ => False)) j f v s) [] [7, 8, 9, 11, 14] [7] (fun _ _ _ s h => ⟨s, h⟩) (by kernel_rfl) (by kernel_rfl) (M2067.preNil 15) (by kernel_rfl) (by kernel_rfl) (by kernel_rfl) (by kernel_rfl) (allOb_cons ?_ (allOb_cons ?_ (allOb_cons ?_ (allOb_cons ?_ (allOb_cons ?_ (allOb_cons ?_ (allOb_cons ?_ (allOb_cons ?_ (allOb_cons ?_ (allOb_cons ?_ (allOb_cons ?_ (allOb_cons ?_ (allOb_cons ?_ (allOb_cons ?_ (allOb_cons ?_ allOb_nil))))))))))))))) ?_
    · intro g2070 f2071
      intro R w2107 M2108
      refine W_run 1 [(27, .slice p2032 x2030.length c2033)] w2107 (by kernel_rfl) ?_
      exact W_nil (ob_end (.slice p2032 x2030.length c2033) [] rfl (by kernel_rfl) ⟨by kernel_rfl, rfl⟩ M2108)
    · intro g2070 f2071
      intro R w2111 M2112
      refine W_run 1 [(28, .pointer (some ⟨b2063, 2, none⟩))] w2111 (by kernel_rfl) ?_
      exact W_nil (ob_end (.pointer (some ⟨b2063, 2, none⟩)) [] rfl (by kernel_rfl) ⟨by kernel_rfl, rfl⟩ M2112)
    · intro g2070 f2071
      intro v1_ hb1_
      obtain ⟨rfl, _⟩ := hb1_
      intro R w2115 M2116
      refine W_val (.slice ((g2058 0).1) y2053.Gave.length ((g2058 0).2)) w2115 (by kernel_rfl) (E_load (e := 50) (fr := (0, 0)) _ _ false 1 b2063 2 [.int .i64 y2053.Guest, .int .i64 y2053.Goal, .slice ((g2058 0).1) y2053.Gave.length ((g2058 0).2)] (.slice ((g2058 0).1) y2053.Gave.length ((g2058 0).2)) rfl (by kernel_rfl) (by kernel_rfl) (by kernel_rfl) (M2116.blk 0 (b := b2063) (o := .cells ⟨[.int .i64 y2053.Guest, .int .i64 y2053.Goal, .slice ((g2058 0).1) y2053.Gave.length ((g2058 0).2)]⟩ 50 (0, 0)) (by kernel_rfl))) ?_
      exact W_nil (ob_end (.slice ((g2058 0).1) y2053.Gave.length ((g2058 0).2)) [] rfl (by kernel_rfl) ⟨by kernel_rfl, rfl⟩ M2116)
    · intro g2070 f2071
      intro v2_ hb2_
      obtain ⟨rfl, _⟩ := hb2_
      intro R w2119 M2120
      refine W_val (elemP ((g2058 0).1) ((0 : Int).toNat * 1)) w2119 (by kernel_rfl) (E_index (E := Gx.encI) _ _ _ y2053.Gave.length ((g2058 0).2) .i64 0 1 (y := y2072) rfl (by kernel_rfl) (by kernel_rfl) (by kernel_rfl) ((hi2057.mem0 M2120).at_ hg2059 0 ⟨Int, Gx.encI, y2053.Gave, (g2058 0).1, (g2058 0).2⟩ (by kernel_rfl)) rfl hy2072) ?_
      exact W_nil (ob_end (elemP ((g2058 0).1) ((0 : Int).toNat * 1)) [] rfl (by kernel_rfl) ⟨by kernel_rfl, rfl⟩ M2120)
    · intro g2070 f2071
      intro v3_ hb3_
      obtain ⟨rfl, _⟩ := hb3_
      intro R w2123 M2124
      refine W_val (.int .i64 y2072) w2123 (by kernel_rfl) (E_loadE (E := Gx.encI) _ _ false 1 0 0 ((0 : Int).toNat * 1) y2072 (.int .i64 y2072) rfl (by kernel_rfl) (by kernel_rfl) (by kernel_rfl) ((hi2057.mem0 M2124).at_ hg2059 0 ⟨Int, Gx.encI, y2053.Gave, (g2058 0).1, (g2058 0).2⟩ (by kernel_rfl)) hy2072 rfl) ?_
      exact W_nil (ob_end (.int .i64 y2072) [] rfl (by kernel_rfl) ⟨by kernel_rfl, rfl⟩ M2124)
    · intro g2070 f2071
      intro R w2127 M2128
      refine W_run 1 [(32, .pointer (some ⟨b2063, 0, none⟩))] w2127 (by kernel_rfl) ?_
      exact W_nil (ob_end (.pointer (some ⟨b2063, 0, none⟩)) [] rfl (by kernel_rfl) ⟨by kernel_rfl, rfl⟩ M2128)
    · intro g2070 f2071
      intro v5_ hb5_
      obtain ⟨rfl, _⟩ := hb5_
      intro R w2131 M2132
      refine W_val (.int .i64 y2053.Guest) w2131 (by kernel_rfl) (E_load (e := 50) (fr := (0, 0)) _ _ false 1 b2063 0 [.int .i64 y2053.Guest, .int .i64 y2053.Goal, .slice ((g2058 0).1) y2053.Gave.length ((g2058 0).2)] (.int .i64 y2053.Guest) rfl (by kernel_rfl) (by kernel_rfl) (by kernel_rfl) (M2132.blk 0 (b := b2063) (o := .cells ⟨[.int .i64 y2053.Guest, .int .i64 y2053.Goal, .slice ((g2058 0).1) y2053.Gave.length ((g2058 0).2)]⟩ 50 (0, 0)) (by kernel_rfl))) ?_
      exact W_nil (ob_end (.int .i64 y2053.Guest) [] rfl (by kernel_rfl) ⟨by kernel_rfl, rfl⟩ M2132)
    · intro g2070 f2071
      intro v0_ hb0_
      obtain ⟨rfl, _⟩ := hb0_
      intro v4_ hb4_
      obtain ⟨rfl, _⟩ := hb4_
      intro v6_ hb6_
      obtain ⟨rfl, _⟩ := hb6_
      intro R w2135 M2136
      refine W_call 61 #[.slice p2032 x2030.length c2033, .int .i64 y2072, .int .i64 y2053.Guest] (by kernel_rfl) (by kernel_rfl) ?_
      refine (c_s_l18Owner w2135 x2030 p2032 c2033 (h2034.mem0 M2136) y2072 y2053.Guest hr2099).mono ?_
      rintro e_ w2137 ⟨p2101, c2102, sg2103, rfl, ho2104, K2139⟩
      refine ⟨_, rfl, ?_⟩
      exact W_nil (ob_end (.slice p2101 r2099.length c2102) sg2103 rfl (by kernel_rfl) ⟨p2101, c2102, rfl, ho2104⟩ (Mem.callMid M2136 K2139))
    · intro g2070 f2071
      intro R w2140 M2141
      refine W_run 1 [(35, .slice p2037 x2035.length c2038)] w2140 (by kernel_rfl) ?_
      exact W_nil (ob_end (.slice p2037 x2035.length c2038) [] rfl (by kernel_rfl) ⟨by kernel_rfl, rfl⟩ M2141)
    · intro g2070 f2071
      intro R w2144 M2145
      refine W_run 1 [(36, .int .i64 x2040)] w2144 (by kernel_rfl) ?_
      exact W_nil (ob_end (.int .i64 x2040) [] rfl (by kernel_rfl) ⟨by kernel_rfl, rfl⟩ M2145)
    · intro g2070 f2071
      intro R w2148 M2149
      refine W_run 1 [(37, .pointer (some ⟨b2063, 1, none⟩))] w2148 (by kernel_rfl) ?_
      exact W_nil (ob_end (.pointer (some ⟨b2063, 1, none⟩)) [] rfl (by kernel_rfl) ⟨by kernel_rfl, rfl⟩ M2149)
    · intro g2070 f2071
      intro v10_ hb10_
      obtain ⟨rfl, _⟩ := hb10_
      intro R w2152 M2153
      refine W_val (.int .i64 y2053.Goal) w2152 (by kernel_rfl) (E_load (e := 50) (fr := (0, 0)) _ _ false 1 b2063 1 [.int .i64 y2053.Guest, .int .i64 y2053.Goal, .slice ((g2058 0).1) y2053.Gave.length ((g2058 0).2)] (.int .i64 y2053.Goal) rfl (by kernel_rfl) (by kernel_rfl) (by kernel_rfl) (M2153.blk 0 (b := b2063) (o := .cells ⟨[.int .i64 y2053.Guest, .int .i64 y2053.Goal, .slice ((g2058 0).1) y2053.Gave.length ((g2058 0).2)]⟩ 50 (0, 0)) (by kernel_rfl))) ?_
      exact W_nil (ob_end (.int .i64 y2053.Goal) [] rfl (by kernel_rfl) ⟨by kernel_rfl, rfl⟩ M2153)
    · intro g2070 f2071
      intro R w2156 M2157
      refine W_run 1 [(39, .pointer (some ⟨b2063, 2, none⟩))] w2156 (by kernel_rfl) ?_
      exact W_nil (ob_end (.pointer (some ⟨b2063, 2, none⟩)) [] rfl (by kernel_rfl) ⟨by kernel_rfl, rfl⟩ M2157)
    · intro g2070 f2071
      intro v12_ hb12_
      obtain ⟨rfl, _⟩ := hb12_
      intro R w2160 M2161
      refine W_val (.slice ((g2058 0).1) y2053.Gave.length ((g2058 0).2)) w2160 (by kernel_rfl) (E_load (e := 50) (fr := (0, 0)) _ _ false 1 b2063 2 [.int .i64 y2053.Guest, .int .i64 y2053.Goal, .slice ((g2058 0).1) y2053.Gave.length ((g2058 0).2)] (.slice ((g2058 0).1) y2053.Gave.length ((g2058 0).2)) rfl (by kernel_rfl) (by kernel_rfl) (by kernel_rfl) (M2161.blk 0 (b := b2063) (o := .cells ⟨[.int .i64 y2053.Guest, .int .i64 y2053.Goal, .slice ((g2058 0).1) y2053.Gave.length ((g2058 0).2)]⟩ 50 (0, 0)) (by kernel_rfl))) ?_
      exact W_nil (ob_end (.slice ((g2058 0).1) y2053.Gave.length ((g2058 0).2)) [] rfl (by kernel_rfl) ⟨by kernel_rfl, rfl⟩ M2161)
    · intro g2070 f2071
      intro v13_ hb13_
      obtain ⟨rfl, _⟩ := hb13_
      intro R w2164 M2165
      refine W_val (.slice (subP ((g2058 0).1) (1 : Int).toNat ((g2058 0).2) 1) ys2105.length (((g2058 0).2) - (1 : Int).toNat)) w2164 (by kernel_rfl) (E_slice (E := Gx.encI) _ _ _ _ y2053.Gave.length 1 (y2053.Gave.length : Int) rfl (by kernel_rfl) (Or.inr ⟨_, rfl, by kernel_rfl⟩) (Or.inl ⟨rfl, rfl⟩) (by kernel_rfl) ((hi2057.mem0 M2165).at_ hg2059 0 ⟨Int, Gx.encI, y2053.Gave, (g2058 0).1, (g2058 0).2⟩ (by kernel_rfl)) rfl hys2105) ?_
      exact W_nil (ob_end (.slice (subP ((g2058 0).1) (1 : Int).toNat ((g2058 0).2) 1) ys2105.length (((g2058 0).2) - (1 : Int).toNat)) [] rfl (by kernel_rfl) ⟨by kernel_rfl, rfl⟩ M2165)
    intro g2070 f2071
    intro v7_ hb7_
    obtain ⟨p2101, c2102, rfl, ho2104⟩ := hb7_
    intro v8_ hb8_
    obtain ⟨rfl, _⟩ := hb8_
    intro v9_ hb9_
    obtain ⟨rfl, _⟩ := hb9_
    intro v11_ hb11_
    obtain ⟨rfl, _⟩ := hb11_
    intro v14_ hb14_
    obtain ⟨rfl, _⟩ := hb14_
    intro w2168 M2169
    have M2170 : Mem [] w w2168 [[(b2063, .cells ⟨[.int .i64 y2053.Guest, .int .i64 y2053.Goal, .slice ((g2058 0).1) y2053.Gave.length ((g2058 0).2)]⟩ 50 (0, 0))], (g2070 7)] := M2169
    obtain ⟨r2171, hr2171, hm⟩ := gx_bind hm
    refine W_call 58 #[.slice p2037 x2035.length c2038, .int .i64 x2040, .int .i64 y2053.Goal, .slice (subP ((g2058 0).1) (1 : Int).toNat ((g2058 0).2) 1) ys2105.length (((g2058 0).2) - (1 : Int).toNat)] (by kernel_rfl) (by kernel_rfl) ?_
    refine (c_s_l18With w2168 x2035 p2037 c2038 (h2039.mem0 M2170) x2040 y2053.Goal ys2105 (subP ((g2058 0).1) (1 : Int).toNat ((g2058 0).2) 1) (((g2058 0).2) - (1 : Int).toNat) (((hi2057.mem0 M2170).at_ hg2059 0 ⟨Int, Gx.encI, y2053.Gave, (g2058 0).1, (g2058 0).2⟩ (by kernel_rfl)).sliceM hys2105) hr2171).mono ?_
    rintro e_ w2178 ⟨p2173, c2174, sg2175, sg2176, rfl, ho2177, K2179⟩
    have M2180 := M2170.call K2179
    refine ⟨_, rfl, ?_⟩
    refine W_run 3 [(8, .slice p2101 r2099.length c2102), (9, .slice p2173 r2171.length c2174), (10, .bool true)] w2178 (by kernel_rfl) ?_
    refine W_nil ?_
    refine N_then ?_
    refine G_ret ?_
    refine N_then_ret ?_
    obtain rfl := Option.some.inj hm
    refine N_ret [.slice p2101 r2099.length c2102, .slice p2173 r2171.length c2174, .bool true] (RVs_cons (RV_tmp (by kernel_rfl)) (RVs_cons (RV_tmp (by kernel_rfl)) (RVs_cons (RV_tmp (by kernel_rfl)) RVs_nil))) ?_
    exact ⟨p2101, c2102, (g2070 7), p2173, c2174, sg2175, sg2176, rfl, (fun _ => ho2104), (fun _ => ho2177), M2180.pick [1, 2, 3] (by kernel_rfl)⟩
  refine G_cond_f (b := (decide (x2041 < 0))) hc2068 (by kernel_rfl) ?_
  refine G_skip ?_
  refine N_then ?_
  refine G_seq ?_
  refine G_seq ?_
  obtain ⟨o2240, ho2241, hm2242⟩ := gx_bind hm
  refine G_meet (fun a w' => Mem [] w w' [[(b2063, .cells ⟨[.int .i64 y2053.Guest, .int .i64 y2053.Goal, .slice ((g2058 0).1) y2053.Gave.length ((g2058 0).2)]⟩ 50 (0, 0))]] ∧ Sat Try.f68.ntmps [(0, .slice p2032 x2030.length c2033), (1, .slice p2037 x2035.length c2038), (2, .int .i64 x2040), (11, .pointer (some ⟨b2063, 0, none⟩)), (55, .bool o2240)] a) ?_ ?_
  · have hm := ho2241
    refine G_region ?_
    refine W_run 1 [(0, .slice p2032 x2030.length c2033), (1, .slice p2037 x2035.length c2038), (2, .int .i64 x2040), (11, .pointer (some ⟨b2063, 0, none⟩)), (43, .pointer (some ⟨b2063, 2, none⟩))] w2066 (by kernel_rfl) ?_
    refine W_val (.slice ((g2058 0).1) y2053.Gave.length ((g2058 0).2)) w2066 (by kernel_rfl) (E_load (e := 50) (fr := (0, 0)) _ _ false 1 b2063 2 [.int .i64 y2053.Guest, .int .i64 y2053.Goal, .slice ((g2058 0).1) y2053.Gave.length ((g2058 0).2)] (.slice ((g2058 0).1) y2053.Gave.length ((g2058 0).2)) rfl (by kernel_rfl) (by kernel_rfl) (by kernel_rfl) (M2067.blk 0 (b := b2063) (o := .cells ⟨[.int .i64 y2053.Guest, .int .i64 y2053.Goal, .slice ((g2058 0).1) y2053.Gave.length ((g2058 0).2)]⟩ 50 (0, 0)) (by kernel_rfl))) ?_
    refine W_run 2 [(0, .slice p2032 x2030.length c2033), (1, .slice p2037 x2035.length c2038), (2, .int .i64 x2040), (11, .pointer (some ⟨b2063, 0, none⟩)), (45, .int .i64 (y2053.Gave.length : Int)), (46, .pointer (some ⟨b2063, 1, none⟩))] w2066 (by kernel_rfl) ?_
    refine W_val (.int .i64 y2053.Goal) w2066 (by kernel_rfl) (E_load (e := 50) (fr := (0, 0)) _ _ false 1 b2063 1 [.int .i64 y2053.Guest, .int .i64 y2053.Goal, .slice ((g2058 0).1) y2053.Gave.length ((g2058 0).2)] (.int .i64 y2053.Goal) rfl (by kernel_rfl) (by kernel_rfl) (by kernel_rfl) (M2067.blk 0 (b := b2063) (o := .cells ⟨[.int .i64 y2053.Guest, .int .i64 y2053.Goal, .slice ((g2058 0).1) y2053.Gave.length ((g2058 0).2)]⟩ 50 (0, 0)) (by kernel_rfl))) ?_
    refine W_run 2 [(0, .slice p2032 x2030.length c2033), (1, .slice p2037 x2035.length c2038), (2, .int .i64 x2040), (11, .pointer (some ⟨b2063, 0, none⟩)), (49, .bool (decide ((y2053.Gave.length : Int) ≥ y2053.Goal)))] w2066 (by kernel_rfl) ?_
    rcases gx_bif hm with ⟨hc2243, hm⟩ | ⟨hc2243, hm⟩
    · refine W_known 49 true (by kernel_rfl) hc2243 ?_
      refine W_run 6 [(0, .slice p2032 x2030.length c2033), (1, .slice p2037 x2035.length c2038), (2, .int .i64 x2040), (11, .pointer (some ⟨b2063, 0, none⟩)), (55, .bool true)] w2066 (by kernel_rfl) ?_
      refine W_nil ?_
      obtain rfl := Option.some.inj hm
      exact N_meet fun a ha => ⟨M2067.pick [0] (by kernel_rfl), ha.sub (by kernel_rfl)⟩
    refine W_known 49 false (by kernel_rfl) hc2243 ?_
    refine W_run 2 [(0, .slice p2032 x2030.length c2033), (1, .slice p2037 x2035.length c2038), (2, .int .i64 x2040), (11, .pointer (some ⟨b2063, 0, none⟩)), (49, .bool false), (50, .slice p2032 x2030.length c2033), (51, .pointer (some ⟨b2063, 0, none⟩))] w2066 (by kernel_rfl) ?_
    refine W_val (.int .i64 y2053.Guest) w2066 (by kernel_rfl) (E_load (e := 50) (fr := (0, 0)) _ _ false 1 b2063 0 [.int .i64 y2053.Guest, .int .i64 y2053.Goal, .slice ((g2058 0).1) y2053.Gave.length ((g2058 0).2)] (.int .i64 y2053.Guest) rfl (by kernel_rfl) (by kernel_rfl) (by kernel_rfl) (M2067.blk 0 (b := b2063) (o := .cells ⟨[.int .i64 y2053.Guest, .int .i64 y2053.Goal, .slice ((g2058 0).1) y2053.Gave.length ((g2058 0).2)]⟩ 50 (0, 0)) (by kernel_rfl))) ?_
    obtain ⟨r2244, hr2244, hm⟩ := gx_bind hm
    refine W_call 65 #[.slice p2032 x2030.length c2033, .int .i64 y2053.Guest] (by kernel_rfl) (by kernel_rfl) ?_
    refine (c_s_l18Count w2066 x2030 p2032 c2033 (h2034.mem0 M2067) y2053.Guest hr2244).mono ?_
    rintro e_ w2245 ⟨rfl, K2246⟩
    have M2247 := M2067.call0 K2246
    refine ⟨_, rfl, ?_⟩
    refine W_run 2 [(0, .slice p2032 x2030.length c2033), (1, .slice p2037 x2035.length c2038), (2, .int .i64 x2040), (11, .pointer (some ⟨b2063, 0, none⟩)), (55, .bool (decide (r2244 < 2)))] w2245 (by kernel_rfl) ?_
    refine W_nil ?_
    obtain rfl := Option.some.inj hm
    exact N_meet fun a ha => ⟨M2247.pick [0] (by kernel_rfl), ha.sub (by kernel_rfl)⟩
  intro a2250 w2248 ⟨M2249, hS2251⟩
  refine N_use hS2251 ?_
  have hm := hm2242
  refine N_then ?_
  rcases gx_bif hm with ⟨hc2252, hm⟩ | ⟨hc2252, hm⟩
  · refine G_cond_t (b := o2240) hc2252 (by kernel_rfl) ?_
    refine G_seq ?_
    refine G_region ?_
    refine W_run 5 [(8, .slice p2032 x2030.length c2033), (9, .slice p2037 x2035.length c2038), (10, .bool false)] w2248 (by kernel_rfl) ?_
    refine W_nil ?_
    refine N_then ?_
    refine G_ret ?_
    refine N_then_ret ?_
    obtain rfl := Option.some.inj hm
    refine N_ret [.slice p2032 x2030.length c2033, .slice p2037 x2035.length c2038, .bool false] (RVs_cons (RV_tmp (by kernel_rfl)) (RVs_cons (RV_tmp (by kernel_rfl)) (RVs_cons (RV_tmp (by kernel_rfl)) RVs_nil))) ?_
    exact ⟨p2032, c2033, [], p2037, c2038, [], [], rfl, (fun h_ => by cases h_), (fun h_ => by cases h_), M2249.pick [100000, 100001, 100002] (by kernel_rfl)⟩
  refine G_cond_f (b := o2240) hc2252 (by kernel_rfl) ?_
  refine G_skip ?_
  refine N_then ?_
  refine G_seq ?_
  refine G_region ?_
  refine W_run 4 [(0, .slice p2032 x2030.length c2033), (1, .slice p2037 x2035.length c2038), (2, .int .i64 x2040), (11, .pointer (some ⟨b2063, 0, none⟩)), (12, .int .i64 (w64 ((x2030.length : Int) - 1)))] w2248 (by kernel_rfl) ?_
  refine W_nil ?_
  refine N_then ?_
  refine G_seq ?_
  obtain ⟨out2268, hw2269, hmo2270⟩ := gx_bind hm
  refine G_meet (fun a w' => Mem [] w w' [[(b2063, .cells ⟨[.int .i64 y2053.Guest, .int .i64 y2053.Goal, .slice ((g2058 0).1) y2053.Gave.length ((g2058 0).2)]⟩ 50 (0, 0))]] ∧ Sat Try.f68.ntmps [(0, .slice p2032 x2030.length c2033), (1, .slice p2037 x2035.length c2038), (2, .int .i64 x2040), (11, .pointer (some ⟨b2063, 0, none⟩)), (12, .int .i64 out2268)] a) ?_ ?_
  · refine G_block ?_
    refine G_while (σ := Int) (ρ := Int) (fun s2261 a w' => Mem [] w w' [[(b2063, .cells ⟨[.int .i64 y2053.Guest, .int .i64 y2053.Goal, .slice ((g2058 0).1) y2053.Gave.length ((g2058 0).2)]⟩ 50 (0, 0))]] ∧ Sat Try.f68.ntmps [(0, .slice p2032 x2030.length c2033), (1, .slice p2037 x2035.length c2038), (2, .int .i64 x2040), (11, .pointer (some ⟨b2063, 0, none⟩)), (12, .int .i64 s2261)] a) hw2269 (fun a ha => ⟨M2249.pick [0] (by kernel_rfl), ha.sub (by kernel_rfl)⟩) ?_
    clear hm
    intro s2261 x2262 hm hout2263 a2264 w2265 ⟨M2266, hS2267⟩
    refine G_use hS2267 ?_
    refine G_seq ?_
    refine G_seq ?_
    refine G_quiet (by kernel_rfl) (by kernel_rfl) M2266 ?_
    refine Z_runs [.slice p2032 x2030.length c2033, .int .i64 s2261] [(0, .slice p2032 x2030.length c2033), (1, .slice p2037 x2035.length c2038), (2, .int .i64 x2040), (11, .pointer (some ⟨b2063, 0, none⟩)), (12, .int .i64 s2261), (61, .slice p2032 x2030.length c2033), (62, .int .i64 s2261)] (fun w_ => by kernel_rfl) (by kernel_rfl) ?_
    obtain ⟨y2272, hy2272, hm⟩ := gx_bind hm
    refine Z_val (elemP p2032 (s2261.toNat * 1)) (by kernel_rfl) (fun w_ M_ => (E_index (E := Gx.encI) _ _ _ x2030.length c2033 .i64 s2261 1 (y := y2272) rfl (by kernel_rfl) (by kernel_rfl) (by kernel_rfl) (h2034.mem0 M_) rfl hy2272)) ?_
    refine Z_val (.int .i64 y2272) (by kernel_rfl) (fun w_ M_ => (E_loadE (E := Gx.encI) _ _ false 1 s2261 0 (s2261.toNat * 1) y2272 (.int .i64 y2272) rfl (by kernel_rfl) (by kernel_rfl) (by kernel_rfl) (h2034.mem0 M_) hy2272 rfl)) ?_
    refine Z_runs [.pointer (some ⟨b2063, 0, none⟩)] [(0, .slice p2032 x2030.length c2033), (1, .slice p2037 x2035.length c2038), (2, .int .i64 x2040), (11, .pointer (some ⟨b2063, 0, none⟩)), (12, .int .i64 s2261), (64, .int .i64 y2272), (65, .pointer (some ⟨b2063, 0, none⟩))] (fun w_ => by kernel_rfl) (by kernel_rfl) ?_
    refine Z_val (.int .i64 y2053.Guest) (by kernel_rfl) (fun w_ M_ => (E_load (e := 50) (fr := (0, 0)) _ _ false 1 b2063 0 [.int .i64 y2053.Guest, .int .i64 y2053.Goal, .slice ((g2058 0).1) y2053.Gave.length ((g2058 0).2)] (.int .i64 y2053.Guest) rfl (by kernel_rfl) (by kernel_rfl) (by kernel_rfl) (M_.blk 0 (b := b2063) (o := .cells ⟨[.int .i64 y2053.Guest, .int .i64 y2053.Goal, .slice ((g2058 0).1) y2053.Gave.length ((g2058 0).2)]⟩ 50 (0, 0)) (by kernel_rfl)))) ?_
    refine Z_runs [.bool (y2272 != y2053.Guest)] [(0, .slice p2032 x2030.length c2033), (1, .slice p2037 x2035.length c2038), (2, .int .i64 x2040), (11, .pointer (some ⟨b2063, 0, none⟩)), (12, .int .i64 s2261), (67, .bool (y2272 != y2053.Guest))] (fun w_ => by kernel_rfl) (by kernel_rfl) ?_
    refine Z_end fun w2273 M2274 => ?_
    refine N_then ?_
    rcases gx_bif hm with ⟨hc2275, hm⟩ | ⟨hc2275, hm⟩
    · refine G_cond_t (b := (y2272 != y2053.Guest)) hc2275 (by kernel_rfl) ?_
      refine G_skip ?_
      refine N_then ?_
      refine G_block ?_
      refine G_region ?_
      refine W_run 3 [(0, .slice p2032 x2030.length c2033), (1, .slice p2037 x2035.length c2038), (2, .int .i64 x2040), (11, .pointer (some ⟨b2063, 0, none⟩)), (12, .int .i64 (w64 (s2261 - 1)))] w2273 (by kernel_rfl) ?_
      refine W_nil ?_
      refine N_block ?_
      obtain rfl := Option.some.inj hm
      exact N_loop fun a ha => ⟨_, rfl, M2274.pick [0] (by kernel_rfl), ha.sub (by kernel_rfl)⟩
    refine G_cond_f (b := (y2272 != y2053.Guest)) hc2275 (by kernel_rfl) ?_
    refine G_exit ?_
    refine N_then_exit ?_
    refine N_then_exit ?_
    refine N_block_eq ?_
    obtain rfl := Option.some.inj hm
    obtain rfl := hout2263 _ rfl
    exact N_meet fun a ha => ⟨M2274.pick [0] (by kernel_rfl), ha.sub (by kernel_rfl)⟩
  intro a2276 w2277 ⟨M2278, hS2279⟩
  refine N_use hS2279 ?_
  have hm := hmo2270
  refine N_then ?_
  refine G_seq ?_
  obtain ⟨r2282, hr2282, hm⟩ := gx_bind hm
  obtain ⟨r2288, hr2288, hm⟩ := gx_bind hm
  obtain ⟨r2452, hr2452, hm⟩ := gx_bind hm
  refine G_sub [(0, .slice p2032 x2030.length c2033), (1, .slice p2037 x2035.length c2038), (2, .int .i64 x2040), (11, .pointer (some ⟨b2063, 0, none⟩)), (12, .int .i64 out2268)] (by kernel_rfl) ?_
  refine G_dagL 12 [[], [], [0, 1], [], [], [], [5], [], [7], [8], [], [9, 10]] [[], [], [], [], [], [], [], [], [], [], [], [9]] [[], [], [], [], [], [], [], [], [], [], [], []] [[], [], [], [], [], [], [], [], [], [], [], []] [[], [], [], [], [], [], [], [], [], [], [], []] [[], [], [], [], [], [], [], [], [], [], [], []] (fun _ => []) (fun i => ([fun f v s => v = (.slice p2032 x2030.length c2033 : Value) ∧ s = [], fun f v s => v = (.int .i64 out2268 : Value) ∧ s = [], fun f v s => ∃ (p2284 : Option Addr) (c2285 : Nat), v = (.slice p2284 r2282.length c2285 : Value) ∧ ownS Gx.encI r2282 p2284 c2285 s, fun f v s => v = (.slice p2037 x2035.length c2038 : Value) ∧ s = [], fun f v s => v = (.int .i64 x2040 : Value) ∧ s = [], fun f v s => v = (.pointer (some ⟨b2063, 1, none⟩) : Value) ∧ s = [], fun f v s => v = (.int .i64 y2053.Goal : Value) ∧ s = [], fun f v s => v = (.pointer (some ⟨b2063, 2, none⟩) : Value) ∧ s = [], fun f v s => v = (.slice ((g2058 0).1) y2053.Gave.length ((g2058 0).2) : Value) ∧ s = [], fun f v s => ∃ (p2290 : Option Addr) (c2291 : Nat), v = (.slice p2290 r2288.length c2291 : Value) ∧ ownS Gx.encI r2288 p2290 c2291 s, fun f v s => v = (.int .i64 out2268 : Value) ∧ s = [], fun f v s => ∃ (p2454 : Option Addr) (c2455 : Nat), v = (.slice p2454 r2452.length c2455 : Value) ∧ ownS Gx.encI r2452 p2454 c2455 s] : List ((Nat → Value) → Value → Seg → Prop)).getD i (fun _ _ _ => False)) (fun j f v => ∃ s, (fun i => ([fun f v s => v = (.slice p2032 x2030.length c2033 : Value) ∧ s = [], fun f v s => v = (.int .i64 out2268 : Value) ∧ s = [], fun f v s => ∃ (p2284 : Option Addr) (c2285 : Nat), v = (.slice p2284 r2282.length c2285 : Value) ∧ ownS Gx.encI r2282 p2284 c2285 s, fun f v s => v = (.slice p2037 x2035.length c2038 : Value) ∧ s = [], fun f v s => v = (.int .i64 x2040 : Value) ∧ s = [], fun f v s => v = (.pointer (some ⟨b2063, 1, none⟩) : Value) ∧ s = [], fun f v s => v = (.int .i64 y2053.Goal : Value) ∧ s = [], fun f v s => v = (.pointer (some ⟨b2063, 2, none⟩) : Value) ∧ s = [], fun f v s => v = (.slice ((g2058 0).1) y2053.Gave.length ((g2058 0).2) : Value) ∧ s = [], fun f v s => ∃ (p2290 : Option Addr) (c2291 : Nat), v = (.slice p2290 r2288.length c2291 : Value) ∧ ownS Gx.encI r2288 p2290 c2291 s, fun f v s => v = (.int .i64 out2268 : Value) ∧ s = [], fun f v s => ∃ (p2454 : Option Addr) (c2455 : Nat), v = (.slice p2454 r2452.length c2455 : Value) ∧ ownS Gx.encI r2452 p2454 c2455 s] : List ((Nat → Value) → Value → Seg → Prop)).getD i (fun _ _ _ => False)) j f v s) [] [2, 3, 4, 6, 11] [2, 11] (fun _ _ _ s h => ⟨s, h⟩) (by kernel_rfl) (by kernel_rfl) (M2278.preNil 12) (by kernel_rfl) (by kernel_rfl) (by kernel_rfl) (by kernel_rfl) (allOb_cons ?_ (allOb_cons ?_ (allOb_cons ?_ (allOb_cons ?_ (allOb_cons ?_ (allOb_cons ?_ (allOb_cons ?_ (allOb_cons ?_ (allOb_cons ?_ (allOb_cons ?_ (allOb_cons ?_ (allOb_cons ?_ allOb_nil)))))))))))) ?_
  · intro g2280 f2281
    intro R w2458 M2459
    refine W_run 1 [(70, .slice p2032 x2030.length c2033)] w2458 (by kernel_rfl) ?_
    exact W_nil (ob_end (.slice p2032 x2030.length c2033) [] rfl (by kernel_rfl) ⟨by kernel_rfl, rfl⟩ M2459)
  · intro g2280 f2281
    intro R w2462 M2463
    refine W_run 1 [(71, .int .i64 out2268)] w2462 (by kernel_rfl) ?_
    exact W_nil (ob_end (.int .i64 out2268) [] rfl (by kernel_rfl) ⟨by kernel_rfl, rfl⟩ M2463)
  · intro g2280 f2281
    intro v0_ hb0_
    obtain ⟨rfl, _⟩ := hb0_
    intro v1_ hb1_
    obtain ⟨rfl, _⟩ := hb1_
    intro R w2466 M2467
    refine W_call 61 #[.slice p2032 x2030.length c2033, .int .i64 out2268, .int .i64 0] (by kernel_rfl) (by kernel_rfl) ?_
    refine (c_s_l18Owner w2466 x2030 p2032 c2033 (h2034.mem0 M2467) out2268 0 hr2282).mono ?_
    rintro e_ w2468 ⟨p2284, c2285, sg2286, rfl, ho2287, K2470⟩
    refine ⟨_, rfl, ?_⟩
    exact W_nil (ob_end (.slice p2284 r2282.length c2285) sg2286 rfl (by kernel_rfl) ⟨p2284, c2285, rfl, ho2287⟩ (Mem.callMid M2467 K2470))
  · intro g2280 f2281
    intro R w2471 M2472
    refine W_run 1 [(73, .slice p2037 x2035.length c2038)] w2471 (by kernel_rfl) ?_
    exact W_nil (ob_end (.slice p2037 x2035.length c2038) [] rfl (by kernel_rfl) ⟨by kernel_rfl, rfl⟩ M2472)
  · intro g2280 f2281
    intro R w2475 M2476
    refine W_run 1 [(74, .int .i64 x2040)] w2475 (by kernel_rfl) ?_
    exact W_nil (ob_end (.int .i64 x2040) [] rfl (by kernel_rfl) ⟨by kernel_rfl, rfl⟩ M2476)
  · intro g2280 f2281
    intro R w2479 M2480
    refine W_run 1 [(75, .pointer (some ⟨b2063, 1, none⟩))] w2479 (by kernel_rfl) ?_
    exact W_nil (ob_end (.pointer (some ⟨b2063, 1, none⟩)) [] rfl (by kernel_rfl) ⟨by kernel_rfl, rfl⟩ M2480)
  · intro g2280 f2281
    intro v5_ hb5_
    obtain ⟨rfl, _⟩ := hb5_
    intro R w2483 M2484
    refine W_val (.int .i64 y2053.Goal) w2483 (by kernel_rfl) (E_load (e := 50) (fr := (0, 0)) _ _ false 1 b2063 1 [.int .i64 y2053.Guest, .int .i64 y2053.Goal, .slice ((g2058 0).1) y2053.Gave.length ((g2058 0).2)] (.int .i64 y2053.Goal) rfl (by kernel_rfl) (by kernel_rfl) (by kernel_rfl) (M2484.blk 0 (b := b2063) (o := .cells ⟨[.int .i64 y2053.Guest, .int .i64 y2053.Goal, .slice ((g2058 0).1) y2053.Gave.length ((g2058 0).2)]⟩ 50 (0, 0)) (by kernel_rfl))) ?_
    exact W_nil (ob_end (.int .i64 y2053.Goal) [] rfl (by kernel_rfl) ⟨by kernel_rfl, rfl⟩ M2484)
  · intro g2280 f2281
    intro R w2487 M2488
    refine W_run 1 [(77, .pointer (some ⟨b2063, 2, none⟩))] w2487 (by kernel_rfl) ?_
    exact W_nil (ob_end (.pointer (some ⟨b2063, 2, none⟩)) [] rfl (by kernel_rfl) ⟨by kernel_rfl, rfl⟩ M2488)
  · intro g2280 f2281
    intro v7_ hb7_
    obtain ⟨rfl, _⟩ := hb7_
    intro R w2491 M2492
    refine W_val (.slice ((g2058 0).1) y2053.Gave.length ((g2058 0).2)) w2491 (by kernel_rfl) (E_load (e := 50) (fr := (0, 0)) _ _ false 1 b2063 2 [.int .i64 y2053.Guest, .int .i64 y2053.Goal, .slice ((g2058 0).1) y2053.Gave.length ((g2058 0).2)] (.slice ((g2058 0).1) y2053.Gave.length ((g2058 0).2)) rfl (by kernel_rfl) (by kernel_rfl) (by kernel_rfl) (M2492.blk 0 (b := b2063) (o := .cells ⟨[.int .i64 y2053.Guest, .int .i64 y2053.Goal, .slice ((g2058 0).1) y2053.Gave.length ((g2058 0).2)]⟩ 50 (0, 0)) (by kernel_rfl))) ?_
    exact W_nil (ob_end (.slice ((g2058 0).1) y2053.Gave.length ((g2058 0).2)) [] rfl (by kernel_rfl) ⟨by kernel_rfl, rfl⟩ M2492)
  · intro g2280 f2281
    intro v8_ hb8_
    obtain ⟨rfl, _⟩ := hb8_
    intro R w2495 M2496
    refine W_call 71 #[.slice ((g2058 0).1) y2053.Gave.length ((g2058 0).2)] (by kernel_rfl) (by kernel_rfl) ?_
    refine (c_s_l1Own w2495 y2053.Gave ((g2058 0).1) ((g2058 0).2) ((hi2057.mem0 M2496).at_ hg2059 0 ⟨Int, Gx.encI, y2053.Gave, (g2058 0).1, (g2058 0).2⟩ (by kernel_rfl)) hr2288).mono ?_
    rintro e_ w2497 ⟨p2290, c2291, sg2292, rfl, ho2293, K2499⟩
    refine ⟨_, rfl, ?_⟩
    exact W_nil (ob_end (.slice p2290 r2288.length c2291) sg2292 rfl (by kernel_rfl) ⟨p2290, c2291, rfl, ho2293⟩ (Mem.callMid M2496 K2499))
  · intro g2280 f2281
    intro R w2500 M2501
    refine W_run 1 [(80, .int .i64 out2268)] w2500 (by kernel_rfl) ?_
    exact W_nil (ob_end (.int .i64 out2268) [] rfl (by kernel_rfl) ⟨by kernel_rfl, rfl⟩ M2501)
  · intro g2280 f2281
    intro v9_ hb9_
    obtain ⟨p2290, c2291, rfl, ho2293⟩ := hb9_
    intro v10_ hb10_
    obtain ⟨rfl, _⟩ := hb10_
    intro R w2504 M2505
    have M2508 := Mem.takeOver M2505
    refine W_call 87 #[.slice p2290 r2288.length c2291, .int .i64 out2268] (by kernel_rfl) (by kernel_rfl) ?_
    refine (c_s_l1Put w2504 r2288 p2290 c2291 (g2280 9) ho2293 out2268 (M2508.hasPick [1]) (M2508.nodupPick [1] (by kernel_rfl)) hr2452).mono ?_
    rintro e_ w2506 ⟨p2454, c2455, sg2456, rfl, ho2457, K2509⟩
    refine ⟨_, rfl, ?_⟩
    exact W_nil (ob_end (.slice p2454 r2452.length c2455) sg2456 rfl (by kernel_rfl) ⟨p2454, c2455, rfl, ho2457⟩ (Mem.callMidF M2508 K2509))
  intro g2280 f2281
  intro v2_ hb2_
  obtain ⟨p2284, c2285, rfl, ho2287⟩ := hb2_
  intro v3_ hb3_
  obtain ⟨rfl, _⟩ := hb3_
  intro v4_ hb4_
  obtain ⟨rfl, _⟩ := hb4_
  intro v6_ hb6_
  obtain ⟨rfl, _⟩ := hb6_
  intro v11_ hb11_
  obtain ⟨p2454, c2455, rfl, ho2457⟩ := hb11_
  intro w2510 M2511
  have M2512 : Mem [] w w2510 [[(b2063, .cells ⟨[.int .i64 y2053.Guest, .int .i64 y2053.Goal, .slice ((g2058 0).1) y2053.Gave.length ((g2058 0).2)]⟩ 50 (0, 0))], (g2280 2), (g2280 11)] := M2511
  obtain ⟨r2513, hr2513, hm⟩ := gx_bind hm
  refine W_call 58 #[.slice p2037 x2035.length c2038, .int .i64 x2040, .int .i64 y2053.Goal, .slice p2454 r2452.length c2455] (by kernel_rfl) (by kernel_rfl) ?_
  refine (c_s_l18With w2510 x2035 p2037 c2038 (h2039.mem0 M2512) x2040 y2053.Goal r2452 p2454 c2455 (ho2457.rd M2512 2 (by kernel_rfl)) hr2513).mono ?_
  rintro e_ w2520 ⟨p2515, c2516, sg2517, sg2518, rfl, ho2519, K2521⟩
  have M2522 := M2512.call K2521
  refine ⟨_, rfl, ?_⟩
  refine W_run 3 [(8, .slice p2284 r2282.length c2285), (9, .slice p2515 r2513.length c2516), (10, .bool true)] w2520 (by kernel_rfl) ?_
  refine W_nil ?_
  refine N_then ?_
  refine G_ret ?_
  obtain rfl := Option.some.inj hm
  refine N_ret [.slice p2284 r2282.length c2285, .slice p2515 r2513.length c2516, .bool true] (RVs_cons (RV_tmp (by kernel_rfl)) (RVs_cons (RV_tmp (by kernel_rfl)) (RVs_cons (RV_tmp (by kernel_rfl)) RVs_nil))) ?_
  exact ⟨p2284, c2285, (g2280 2), p2515, c2516, sg2517, sg2518, rfl, (fun _ => ho2287), (fun _ => ho2519), M2522.pick [1, 3, 4] (by kernel_rfl)⟩
theorem c_s_SettleGuest (w : World) (x392 : List Int) (p394 : Option Addr) (c395 : Nat) (h396 : rdS Gx.encI w x392 p394 c395) (x397 : List Balloon) (p399 : Option Addr) (c400 : Nat) (h401 : rdD deepBalloon w x397 p399 c400) (x402 : Int) {r : (List Int) × (List Balloon) × Int × Bool} (hm : M.s_SettleGuest x392 x397 x402 = some r) :
    Calls Try.prog 36 #[.slice p394 x392.length c395, .slice p399 x397.length c400, .int .i64 x402] w fun e w' => ∃ (p404 : Option Addr) (c405 : Nat) (sg406 : Seg), ∃ (p408 : Option Addr) (c409 : Nat) (sg410 : Seg) (sg411 : Seg), e = .returned (.tuple #[.slice p404 r.1.length c405, .slice p408 r.2.1.length c409, .int .i64 r.2.2.1, .bool r.2.2.2]) ∧ ownS Gx.encI r.1 p404 c405 sg406 ∧ ownD deepBalloon r.2.1 p408 c409 sg410 sg411 ∧ Mem [] w w' [sg406, sg410, sg411] := by
  unfold M.s_SettleGuest at hm
  refine C_enter Try.func36 rfl (by kernel_rfl) ?_
  have M0 := Mem.refl [] w
  refine G_seq ?_
  refine G_region ?_
  refine W_run 4 [(0, .slice p394 x392.length c395), (1, .slice p399 x397.length c400), (2, .int .i64 x402)] w (by kernel_rfl) ?_
  refine W_nil ?_
  refine N_then ?_
  refine G_seq ?_
  refine G_region ?_
  refine W_run 2 [(0, .slice p394 x392.length c395), (1, .slice p399 x397.length c400), (18, .slice p399 x397.length c400), (19, .int .i64 x402)] w (by kernel_rfl) ?_
  obtain ⟨r465, hr465, hm⟩ := gx_bind hm
  refine W_call 56 #[.slice p399 x397.length c400, .int .i64 x402] (by kernel_rfl) (by kernel_rfl) ?_
  refine (c_s_l18Find w x397 p399 c400 (h401.mem0 M0) x402 hr465).mono ?_
  rintro e_ w466 ⟨rfl, K467⟩
  have M468 := M0.call0 K467
  refine ⟨_, rfl, ?_⟩
  refine W_run 1 [(0, .slice p394 x392.length c395), (1, .slice p399 x397.length c400), (10, .int .i64 r465)] w466 (by kernel_rfl) ?_
  refine W_nil ?_
  refine N_then ?_
  refine G_seq ?_
  refine G_seq ?_
  obtain ⟨o1317, ho1318, hm1319⟩ := gx_bind hm
  refine G_meet (fun a w' => Mem [] w w' [] ∧ Sat Try.f36.ntmps [(0, .slice p394 x392.length c395), (1, .slice p399 x397.length c400), (10, .int .i64 r465), (28, .bool o1317)] a) ?_ ?_
  · have hm := ho1318
    refine G_region ?_
    refine W_run 2 [(0, .slice p394 x392.length c395), (1, .slice p399 x397.length c400), (10, .int .i64 r465), (21, .slice p394 x392.length c395), (22, .slice p399 x397.length c400)] w466 (by kernel_rfl) ?_
    obtain ⟨r1320, hr1320, hm⟩ := gx_bind hm
    refine W_call 47 #[.slice p394 x392.length c395, .slice p399 x397.length c400] (by kernel_rfl) (by kernel_rfl) ?_
    refine (c_s_l18Good w466 x392 p394 c395 (h396.mem0 M468) x397 p399 c400 (h401.mem0 M468) hr1320).mono ?_
    rintro e_ w1321 ⟨rfl, K1322⟩
    have M1323 := M468.call0 K1322
    refine ⟨_, rfl, ?_⟩
    refine W_run 2 [(0, .slice p394 x392.length c395), (1, .slice p399 x397.length c400), (10, .int .i64 r465), (25, .bool (!r1320))] w1321 (by kernel_rfl) ?_
    rcases gx_bif hm with ⟨hc1324, hm⟩ | ⟨hc1324, hm⟩
    · refine W_known 25 true (by kernel_rfl) hc1324 ?_
      refine W_run 3 [(0, .slice p394 x392.length c395), (1, .slice p399 x397.length c400), (10, .int .i64 r465), (28, .bool true)] w1321 (by kernel_rfl) ?_
      refine W_nil ?_
      obtain rfl := Option.some.inj hm
      exact N_meet fun a ha => ⟨M1323.pick [] (by kernel_rfl), ha.sub (by kernel_rfl)⟩
    refine W_known 25 false (by kernel_rfl) hc1324 ?_
    refine W_run 3 [(0, .slice p394 x392.length c395), (1, .slice p399 x397.length c400), (10, .int .i64 r465), (28, .bool (decide (r465 < 0)))] w1321 (by kernel_rfl) ?_
    refine W_nil ?_
    obtain rfl := Option.some.inj hm
    exact N_meet fun a ha => ⟨M1323.pick [] (by kernel_rfl), ha.sub (by kernel_rfl)⟩
  intro a1327 w1325 ⟨M1326, hS1328⟩
  refine N_use hS1328 ?_
  have hm := hm1319
  refine N_then ?_
  rcases gx_bif hm with ⟨hc1329, hm⟩ | ⟨hc1329, hm⟩
  · refine G_cond_t (b := o1317) hc1329 (by kernel_rfl) ?_
    refine G_seq ?_
    refine G_region ?_
    refine W_lit (E := Gx.encI) ([] : List Int) 0 [] 3 M1326 (by kernel_rfl) (by kernel_rfl) (by kernel_rfl) (by kernel_rfl) (by kernel_rfl) ?_
    intro p1330 c1331 sg1332 w1333 ho1334 M1335
    have M1337 : Mem [] w w1333 [sg1332] := M1335.pick [0] (by kernel_rfl)
    have M1338 : Mem [] w w1333 [sg1332, []] := M1337.regroup (by simp)
    refine W_litD (D := deepBalloon) [] ([] : List Balloon) rfl 0 [] 50 M1338 (by kernel_rfl) (by kernel_rfl) (by kernel_rfl) (by kernel_rfl) (by kernel_rfl) ownI_nil ?_
    intro p1339 c1340 sg1341 w1342 ho1343 M1344
    refine W_run 4 [(6, .slice p1330 ([] : List Int).length c1331), (7, .slice p1339 ([] : List Balloon).length c1340), (8, .int .i64 0), (9, .bool false)] w1342 (by kernel_rfl) ?_
    refine W_nil ?_
    refine N_then ?_
    refine G_ret ?_
    refine N_then_ret ?_
    obtain rfl := Option.some.inj hm
    refine N_ret [.slice p1330 ([] : List Int).length c1331, .slice p1339 ([] : List Balloon).length c1340, .int .i64 0, .bool false] (RVs_cons (RV_tmp (by kernel_rfl)) (RVs_cons (RV_tmp (by kernel_rfl)) (RVs_cons (RV_tmp (by kernel_rfl)) (RVs_cons (RV_tmp (by kernel_rfl)) RVs_nil)))) ?_
    exact ⟨p1330, c1331, sg1332, p1339, c1340, sg1341, [], rfl, ho1334, ho1343, M1344.pick [0, 2, 1] (by kernel_rfl)⟩
  refine G_cond_f (b := o1317) hc1329 (by kernel_rfl) ?_
  refine G_skip ?_
  refine N_then ?_
  refine G_seq ?_
  refine G_region ?_
  refine W_run 1 [(1, .slice p399 x397.length c400), (10, .int .i64 r465), (31, .slice p394 x392.length c395)] w1325 (by kernel_rfl) ?_
  obtain ⟨r1371, hr1371, hm⟩ := gx_bind hm
  refine W_call 71 #[.slice p394 x392.length c395] (by kernel_rfl) (by kernel_rfl) ?_
  refine (c_s_l1Own w1325 x392 p394 c395 (h396.mem0 M1326) hr1371).mono ?_
  rintro e_ w1377 ⟨p1373, c1374, sg1375, rfl, ho1376, K1378⟩
  have M1379 := M1326.call K1378
  refine ⟨_, rfl, ?_⟩
  refine W_run 1 [(1, .slice p399 x397.length c400), (10, .int .i64 r465), (32, .slice p1373 r1371.length c1374), (33, .slice p399 x397.length c400)] w1377 (by kernel_rfl) ?_
  obtain ⟨r1957, hr1957, hm⟩ := gx_bind hm
  refine W_call 58 #[.slice p399 x397.length c400, .int .i64 (-1), .int .i64 0, .slice none 0 0] (by kernel_rfl) (by kernel_rfl) ?_
  refine (c_s_l18With w1377 x397 p399 c400 (h401.mem0 M1379) (-1) 0 ([] : List Int) none 0 rdS_nil hr1957).mono ?_
  rintro e_ w1964 ⟨p1959, c1960, sg1961, sg1962, rfl, ho1963, K1965⟩
  have M1966 := M1379.call K1965
  refine ⟨_, rfl, ?_⟩
  refine W_run 3 [(1, .slice p399 x397.length c400), (10, .int .i64 r465), (11, .slice p1373 r1371.length c1374), (12, .slice p1959 r1957.length c1960), (13, .int .i64 0)] w1964 (by kernel_rfl) ?_
  refine W_nil ?_
  refine N_then ?_
  refine G_seq ?_
  refine G_region ?_
  refine W_run 1 [(1, .slice p399 x397.length c400), (10, .int .i64 r465), (11, .slice p1373 r1371.length c1374), (12, .slice p1959 r1957.length c1960), (13, .int .i64 0), (14, .int .i64 1)] w1964 (by kernel_rfl) ?_
  refine W_nil ?_
  refine N_then ?_
  refine G_seq ?_
  refine G_seq ?_
  refine G_quiet (by kernel_rfl) (by kernel_rfl) M1966 ?_
  refine Z_runs [.slice p399 x397.length c400, .int .i64 r465] [(1, .slice p399 x397.length c400), (10, .int .i64 r465), (11, .slice p1373 r1371.length c1374), (12, .slice p1959 r1957.length c1960), (13, .int .i64 0), (14, .int .i64 1), (35, .slice p399 x397.length c400), (36, .int .i64 r465)] (fun w_ => by kernel_rfl) (by kernel_rfl) ?_
  obtain ⟨y1967, hy1967, hm⟩ := gx_bind hm
  obtain ⟨zs1968, hz1969, hr1970, hi1971⟩ := id h401
  obtain ⟨g1972, hg1973⟩ := gxIdx_fst hz1969 hy1967
  refine Z_val (elemP p399 (r465.toNat * 3)) (by kernel_rfl) (fun w_ M_ => (E_index (E := deepBalloon.E) _ _ _ x397.length c400 .i64 r465 3 (y := (y1967, g1972)) rfl (by kernel_rfl) (by kernel_rfl) (by kernel_rfl) (hr1970.mem0 M_) (len_fst hz1969) hg1973)) ?_
  refine Z_val (elemP p399 (r465.toNat * 3 + 2)) (by kernel_rfl) (fun w_ M_ => (E_fieldE (E := deepBalloon.E) _ _ 2 (r465.toNat * 3) 2 rfl (by kernel_rfl) (by kernel_rfl) (hr1970.mem0 M_) hg1973)) ?_
  refine Z_val (.slice ((g1972 0).1) y1967.Gave.length ((g1972 0).2)) (by kernel_rfl) (fun w_ M_ => (E_loadE (E := deepBalloon.E) _ _ false 1 r465 2 (r465.toNat * 3 + 2) (y1967, g1972) (.slice ((g1972 0).1) y1967.Gave.length ((g1972 0).2)) rfl (by kernel_rfl) (by kernel_rfl) (by kernel_rfl) (hr1970.mem0 M_) hg1973 rfl)) ?_
  refine Z_runs [.int .i64 (y1967.Gave.length : Int), .slice p399 x397.length c400, .int .i64 r465] [(10, .int .i64 r465), (11, .slice p1373 r1371.length c1374), (12, .slice p1959 r1957.length c1960), (13, .int .i64 0), (14, .int .i64 1), (40, .int .i64 (y1967.Gave.length : Int)), (41, .slice p399 x397.length c400), (42, .int .i64 r465)] (fun w_ => by kernel_rfl) (by kernel_rfl) ?_
  obtain ⟨y1975, hy1975, hm⟩ := gx_bind hm
  obtain ⟨g1976, hg1977⟩ := gxIdx_fst hz1969 hy1975
  refine Z_val (elemP p399 (r465.toNat * 3)) (by kernel_rfl) (fun w_ M_ => (E_index (E := deepBalloon.E) _ _ _ x397.length c400 .i64 r465 3 (y := (y1975, g1976)) rfl (by kernel_rfl) (by kernel_rfl) (by kernel_rfl) (hr1970.mem0 M_) (len_fst hz1969) hg1977)) ?_
  refine Z_val (elemP p399 (r465.toNat * 3 + 1)) (by kernel_rfl) (fun w_ M_ => (E_fieldE (E := deepBalloon.E) _ _ 1 (r465.toNat * 3) 1 rfl (by kernel_rfl) (by kernel_rfl) (hr1970.mem0 M_) hg1977)) ?_
  refine Z_val (.int .i64 y1975.Goal) (by kernel_rfl) (fun w_ M_ => (E_loadE (E := deepBalloon.E) _ _ false 1 r465 1 (r465.toNat * 3 + 1) (y1975, g1976) (.int .i64 y1975.Goal) rfl (by kernel_rfl) (by kernel_rfl) (by kernel_rfl) (hr1970.mem0 M_) hg1977 rfl)) ?_
  refine Z_runs [.bool (decide ((y1967.Gave.length : Int) > y1975.Goal))] [(10, .int .i64 r465), (11, .slice p1373 r1371.length c1374), (12, .slice p1959 r1957.length c1960), (13, .int .i64 0), (14, .int .i64 1), (46, .bool (decide ((y1967.Gave.length : Int) > y1975.Goal)))] (fun w_ => by kernel_rfl) (by kernel_rfl) ?_
  refine Z_end fun w1979 M1980 => ?_
  refine N_then ?_
  obtain ⟨o1982, ho1983, hm1984⟩ := gx_bind hm
  refine G_meet (fun a w' => Mem [] w w' [sg1375, sg1961, sg1962] ∧ Sat Try.f36.ntmps [(10, .int .i64 r465), (11, .slice p1373 r1371.length c1374), (12, .slice p1959 r1957.length c1960), (13, .int .i64 0), (14, .int .i64 o1982)] a) ?_ ?_
  · have hm := ho1983
    rcases gx_bif hm with ⟨hc1985, hm⟩ | ⟨hc1985, hm⟩
    · refine G_cond_t (b := (decide ((y1967.Gave.length : Int) > y1975.Goal))) hc1985 (by kernel_rfl) ?_
      refine G_region ?_
      refine W_run 1 [(10, .int .i64 r465), (11, .slice p1373 r1371.length c1374), (12, .slice p1959 r1957.length c1960), (13, .int .i64 0), (14, .int .i64 (-1))] w1979 (by kernel_rfl) ?_
      refine W_nil ?_
      obtain rfl := Option.some.inj hm
      exact N_meet fun a ha => ⟨M1980.pick [0, 1, 2] (by kernel_rfl), ha.sub (by kernel_rfl)⟩
    refine G_cond_f (b := (decide ((y1967.Gave.length : Int) > y1975.Goal))) hc1985 (by kernel_rfl) ?_
    refine G_skip ?_
    obtain rfl := Option.some.inj hm
    exact N_meet fun a ha => ⟨M1980.pick [0, 1, 2] (by kernel_rfl), ha.sub (by kernel_rfl)⟩
  intro a1988 w1986 ⟨M1987, hS1989⟩
  refine N_use hS1989 ?_
  have hm := hm1984
  refine N_then ?_
  obtain ⟨out2573, hw2574, hmo2575⟩ := gx_bind hm
  refine G_meet (fun a w' => False) ?_ ?_
  · refine G_block ?_
    refine G_while (σ := List Int × List Balloon × Int) (ρ := (List Int) × (List Balloon) × Int × Bool) (fun s2566 a w' => ∃ (p2576 : Option Addr), ∃ (c2577 : Nat), ∃ (sg2578 : Seg), ∃ (p2581 : Option Addr), ∃ (c2582 : Nat), ∃ (sg2583 : Seg), ∃ (sg2584 : Seg), ownS Gx.encI s2566.1 p2576 c2577 sg2578 ∧ ownD deepBalloon s2566.2.1 p2581 c2582 sg2583 sg2584 ∧ Mem [] w w' [sg2578, sg2583, sg2584] ∧ Sat Try.f36.ntmps [(10, .int .i64 r465), (11, .slice p2576 s2566.1.length c2577), (12, .slice p2581 s2566.2.1.length c2582), (13, .int .i64 s2566.2.2), (14, .int .i64 o1982)] a) hw2574 (fun a ha => ⟨p1373, c1374, sg1375, p1959, c1960, sg1961, sg1962, ho1376, ho1963, M1987.pick [0, 1, 2] (by kernel_rfl), ha.sub (by kernel_rfl)⟩) ?_
    clear hm
    intro s2566 x2567 hm hout2568 a2569 w2570 ⟨p2576, c2577, sg2578, p2581, c2582, sg2583, sg2584, ho2579, ho2585, M2571, hS2572⟩
    refine G_use hS2572 ?_
    refine G_block ?_
    refine G_seq ?_
    refine G_region ?_
    refine W_run 4 [(10, .int .i64 r465), (11, .slice p2576 s2566.1.length c2577), (12, .slice p2581 s2566.2.1.length c2582), (13, .int .i64 s2566.2.2), (14, .int .i64 o1982), (48, .slice p2576 s2566.1.length c2577), (49, .slice p2581 s2566.2.1.length c2582), (50, .int .i64 r465), (51, .int .i64 o1982)] w2570 (by kernel_rfl) ?_
    obtain ⟨r2587, hr2587, hm⟩ := gx_bind hm
    refine W_call 68 #[.slice p2576 s2566.1.length c2577, .slice p2581 s2566.2.1.length c2582, .int .i64 r465, .int .i64 o1982] (by kernel_rfl) (by kernel_rfl) ?_
    refine (c_s_l18Step w2570 s2566.1 p2576 c2577 (ho2579.rd M2571 0 (by kernel_rfl)) s2566.2.1 p2581 c2582 (ho2585.rd M2571 1 (by kernel_rfl) 2 (by kernel_rfl)) r465 o1982 hr2587).mono ?_
    rintro e_ w2599 ⟨p2589, c2590, sg2591, p2594, c2595, sg2596, sg2597, rfl, ho2592, ho2598, K2600⟩
    have M2601 := M2571.call K2600
    refine ⟨_, rfl, ?_⟩
    refine W_run 7 [(10, .int .i64 r465), (11, .slice p2576 s2566.1.length c2577), (12, .slice p2581 s2566.2.1.length c2582), (13, .int .i64 s2566.2.2), (14, .int .i64 o1982), (15, .slice p2589 r2587.1.length c2590), (16, .slice p2594 r2587.2.1.length c2595), (17, .bool r2587.2.2)] w2599 (by kernel_rfl) ?_
    refine W_nil ?_
    refine N_then ?_
    refine G_seq ?_
    refine G_seq ?_
    refine G_region ?_
    refine W_run 2 [(10, .int .i64 r465), (11, .slice p2576 s2566.1.length c2577), (12, .slice p2581 s2566.2.1.length c2582), (13, .int .i64 s2566.2.2), (14, .int .i64 o1982), (15, .slice p2589 r2587.1.length c2590), (16, .slice p2594 r2587.2.1.length c2595), (57, .bool (!r2587.2.2))] w2599 (by kernel_rfl) ?_
    refine W_nil ?_
    refine N_then ?_
    rcases gx_bif hm with ⟨hc2602, hm⟩ | ⟨hc2602, hm⟩
    · refine G_cond_t (b := (!r2587.2.2)) hc2602 (by kernel_rfl) ?_
      refine G_seq ?_
      refine G_region ?_
      refine W_run 7 [(6, .slice p2576 s2566.1.length c2577), (7, .slice p2581 s2566.2.1.length c2582), (8, .int .i64 s2566.2.2), (9, .bool true)] w2599 (by kernel_rfl) ?_
      refine W_nil ?_
      refine N_then ?_
      refine G_ret ?_
      refine N_then_ret ?_
      refine N_block_ret ?_
      refine N_then_ret ?_
      obtain rfl := Option.some.inj hm
      obtain rfl := hout2568 _ rfl
      have hm := hmo2575
      refine N_block_ret ?_
      refine N_meet_ret ?_
      obtain rfl := Option.some.inj hm
      refine N_ret [.slice p2576 s2566.1.length c2577, .slice p2581 s2566.2.1.length c2582, .int .i64 s2566.2.2, .bool true] (RVs_cons (RV_tmp (by kernel_rfl)) (RVs_cons (RV_tmp (by kernel_rfl)) (RVs_cons (RV_tmp (by kernel_rfl)) (RVs_cons (RV_tmp (by kernel_rfl)) RVs_nil)))) ?_
      exact ⟨p2576, c2577, sg2578, p2581, c2582, sg2583, sg2584, rfl, ho2579, ho2585, M2601.pick [0, 1, 2] (by kernel_rfl)⟩
    refine G_cond_f (b := (!r2587.2.2)) hc2602 (by kernel_rfl) ?_
    refine G_skip ?_
    refine N_then ?_
    refine G_seq ?_
    refine G_region ?_
    refine W_run 2 [(10, .int .i64 r465), (11, .slice p2589 r2587.1.length c2590), (13, .int .i64 s2566.2.2), (14, .int .i64 o1982), (16, .slice p2594 r2587.2.1.length c2595)] w2599 (by kernel_rfl) ?_
    refine W_nil ?_
    refine N_then ?_
    refine G_seq ?_
    refine G_region ?_
    refine W_run 2 [(10, .int .i64 r465), (11, .slice p2589 r2587.1.length c2590), (12, .slice p2594 r2587.2.1.length c2595), (13, .int .i64 s2566.2.2), (14, .int .i64 o1982)] w2599 (by kernel_rfl) ?_
    refine W_nil ?_
    refine N_then ?_
    refine G_region ?_
    refine W_run 3 [(10, .int .i64 r465), (11, .slice p2589 r2587.1.length c2590), (12, .slice p2594 r2587.2.1.length c2595), (13, .int .i64 (w64 (s2566.2.2 + 1))), (14, .int .i64 o1982)] w2599 (by kernel_rfl) ?_
    refine W_nil ?_
    refine N_block ?_
    obtain rfl := Option.some.inj hm
    exact N_loop fun a ha => ⟨_, rfl, p2589, c2590, sg2591, p2594, c2595, sg2596, sg2597, (ho2592 (by simpa using hc2602)), (ho2598 (by simpa using hc2602)), M2601.pick [3, 4, 5] (by kernel_rfl), ha.sub (by kernel_rfl)⟩
  intro _ _ h
  exact h.elim
theorem c_i_balloonOf_1 (w : World) (x2696 : Balloon) (p2698 : Option Addr) (c2699 : Nat) (h2700 : rdS Gx.encI w x2696.Gave p2698 c2699) (x2701 : Int) (b2702 : Nat) (hb2703 : w.heap[b2702]? = some (.cells ⟨[.int .i64 x2701]⟩ 3 (0, 0))) {r : Bool} (hm : M.i_balloonOf_1 x2696 x2701 = some r) :
    Calls Try.prog 86 #[.agg #[.int .i64 x2696.Guest, .int .i64 x2696.Goal, .slice p2698 x2696.Gave.length c2699], .pointer (some ⟨b2702, 0, none⟩)] w fun e w' => e = .returned (.bool r) ∧ Mem [] w w' [] := by
  unfold M.i_balloonOf_1 at hm
  refine C_enter Try.func86 rfl (by kernel_rfl) ?_
  have M0 := Mem.refl [] w
  refine G_seq ?_
  refine G_region ?_
  refine W_new (fun b => .pointer (some ⟨b, 0, none⟩)) (.cells ⟨[.int .i64 x2696.Guest, .int .i64 x2696.Goal, .slice p2698 x2696.Gave.length c2699]⟩ 50 (0, 0)) M0 rfl (by kernel_rfl) (by kernel_rfl) ?_
  intro b2706 w2707 M2708
  refine W_run 1 [(1, .pointer (some ⟨b2702, 0, none⟩)), (2, .pointer (some ⟨b2706, 0, none⟩))] w2707 (by kernel_rfl) ?_
  refine W_nil ?_
  refine N_then ?_
  refine G_seq ?_
  refine G_region ?_
  refine W_run 1 [(1, .pointer (some ⟨b2702, 0, none⟩)), (4, .pointer (some ⟨b2706, 0, none⟩))] w2707 (by kernel_rfl) ?_
  refine W_val (.int .i64 x2696.Guest) w2707 (by kernel_rfl) (E_load (e := 50) (fr := (0, 0)) _ _ false 1 b2706 0 [.int .i64 x2696.Guest, .int .i64 x2696.Goal, .slice p2698 x2696.Gave.length c2699] (.int .i64 x2696.Guest) rfl (by kernel_rfl) (by kernel_rfl) (by kernel_rfl) (M2708.blk 0 (b := b2706) (o := .cells ⟨[.int .i64 x2696.Guest, .int .i64 x2696.Goal, .slice p2698 x2696.Gave.length c2699]⟩ 50 (0, 0)) (by kernel_rfl))) ?_
  refine W_val (.int .i64 x2701) w2707 (by kernel_rfl) (E_load (e := 3) (fr := (0, 0)) _ _ false 1 b2702 0 [.int .i64 x2701] (.int .i64 x2701) rfl (by kernel_rfl) (by kernel_rfl) (by kernel_rfl) (M2708.ro hb2703)) ?_
  refine W_run 2 [(3, .bool (x2696.Guest == x2701))] w2707 (by kernel_rfl) ?_
  refine W_nil ?_
  refine N_then ?_
  refine G_ret ?_
  obtain rfl := Option.some.inj hm
  refine N_ret [.bool (x2696.Guest == x2701)] (RVs_cons (RV_tmp (by kernel_rfl)) RVs_nil) ?_
  exact ⟨rfl, M2708.pick [] (by kernel_rfl)⟩
theorem c_slices_IndexFunc_85__i_balloonOf_1 (w : World) (x2678 : List Balloon) (p2680 : Option Addr) (c2681 : Nat) (h2682 : rdD deepBalloon w x2678 p2680 c2681) (x2683 : Int) (b2684 : Nat) (hb2685 : w.heap[b2684]? = some (.cells ⟨[.int .i64 x2683]⟩ 3 (0, 0))) {r : Int} (hm : M.slices_IndexFunc_85__i_balloonOf_1 x2678 x2683 = some r) :
    Calls Try.prog 85 #[.slice p2680 x2678.length c2681, .func (.func 86) #[] #[.pointer (some ⟨b2684, 0, none⟩)]] w fun e w' => e = .returned (.int .i64 r) ∧ Mem [] w w' [] := by
  unfold M.slices_IndexFunc_85__i_balloonOf_1 at hm
  refine C_enter Try.func85 rfl (by kernel_rfl) ?_
  have M0 := Mem.refl [] w
  refine G_seq ?_
  refine G_region ?_
  refine W_run 1 [(0, .slice p2680 x2678.length c2681), (1, .func (.func 86) #[] #[.pointer (some ⟨b2684, 0, none⟩)])] w (by kernel_rfl) ?_
  refine W_nil ?_
  refine N_then ?_
  refine G_seq ?_
  refine G_seq ?_
  refine G_region ?_
  refine W_run 3 [(0, .slice p2680 x2678.length c2681), (1, .func (.func 86) #[] #[.pointer (some ⟨b2684, 0, none⟩)]), (7, .int .i64 (x2678.length : Int)), (8, .int .i64 0)] w (by kernel_rfl) ?_
  refine W_nil ?_
  refine N_then ?_
  obtain ⟨out2735, hw2736, hmo2737⟩ := gx_bind hm
  refine G_meet (fun a w' => ∃ (o2738 : Unit), out2735 = .inl o2738 ∧ Mem [] w w' [] ∧ Sat Try.f85.ntmps [] a) ?_ ?_
  · refine G_block ?_
    refine G_while (σ := Int) (ρ := (Unit) ⊕ (Int)) (fun s2728 a w' => Mem [] w w' [] ∧ Sat Try.f85.ntmps [(0, .slice p2680 x2678.length c2681), (1, .func (.func 86) #[] #[.pointer (some ⟨b2684, 0, none⟩)]), (7, .int .i64 (x2678.length : Int)), (8, .int .i64 s2728)] a) hw2736 (fun a ha => ⟨M0.pick [] (by kernel_rfl), ha.sub (by kernel_rfl)⟩) ?_
    clear hm
    intro s2728 x2729 hm hout2730 a2731 w2732 ⟨M2733, hS2734⟩
    refine G_use hS2734 ?_
    refine G_seq ?_
    refine G_region ?_
    refine W_run 1 [(0, .slice p2680 x2678.length c2681), (1, .func (.func 86) #[] #[.pointer (some ⟨b2684, 0, none⟩)]), (7, .int .i64 (x2678.length : Int)), (8, .int .i64 s2728), (9, .bool (decide (s2728 < (x2678.length : Int))))] w2732 (by kernel_rfl) ?_
    refine W_nil ?_
    refine N_then ?_
    refine G_seq ?_
    rcases gx_bif hm with ⟨hc2739, hm⟩ | ⟨hc2739, hm⟩
    · refine G_cond_t (b := (decide (s2728 < (x2678.length : Int)))) hc2739 (by kernel_rfl) ?_
      refine G_skip ?_
      refine N_then ?_
      refine G_seq ?_
      refine G_block ?_
      refine G_seq ?_
      refine G_region ?_
      refine W_run 2 [(0, .slice p2680 x2678.length c2681), (1, .func (.func 86) #[] #[.pointer (some ⟨b2684, 0, none⟩)]), (5, .int .i64 s2728), (7, .int .i64 (x2678.length : Int)), (8, .int .i64 s2728)] w2732 (by kernel_rfl) ?_
      refine W_nil ?_
      refine N_then ?_
      refine G_seq ?_
      refine G_region ?_
      refine W_run 3 [(0, .slice p2680 x2678.length c2681), (1, .func (.func 86) #[] #[.pointer (some ⟨b2684, 0, none⟩)]), (5, .int .i64 s2728), (7, .int .i64 (x2678.length : Int)), (8, .int .i64 s2728), (11, .func (.func 86) #[] #[.pointer (some ⟨b2684, 0, none⟩)]), (12, .slice p2680 x2678.length c2681), (13, .int .i64 s2728)] w2732 (by kernel_rfl) ?_
      obtain ⟨y2740, hy2740, hm⟩ := gx_bind hm
      obtain ⟨zs2741, hz2742, hr2743, hi2744⟩ := id h2682
      obtain ⟨g2745, hg2746⟩ := gxIdx_fst hz2742 hy2740
      refine W_val (elemP p2680 (s2728.toNat * 3)) w2732 (by kernel_rfl) (E_index (E := deepBalloon.E) _ _ _ x2678.length c2681 .i64 s2728 3 (y := (y2740, g2745)) rfl (by kernel_rfl) (by kernel_rfl) (by kernel_rfl) (hr2743.mem0 M2733) (len_fst hz2742) hg2746) ?_
      refine W_val (.agg #[.int .i64 y2740.Guest, .int .i64 y2740.Goal, .slice ((g2745 0).1) y2740.Gave.length ((g2745 0).2)]) w2732 (by kernel_rfl) (E_loadE (E := deepBalloon.E) _ _ true 3 s2728 0 (s2728.toNat * 3) (y2740, g2745) (.agg #[.int .i64 y2740.Guest, .int .i64 y2740.Goal, .slice ((g2745 0).1) y2740.Gave.length ((g2745 0).2)]) rfl (by kernel_rfl) (by kernel_rfl) (by kernel_rfl) (hr2743.mem0 M2733) hg2746 rfl) ?_
      obtain ⟨r2748, hr2748, hm⟩ := gx_bind hm
      refine W_call 86 #[.agg #[.int .i64 y2740.Guest, .int .i64 y2740.Goal, .slice ((g2745 0).1) y2740.Gave.length ((g2745 0).2)], .pointer (some ⟨b2684, 0, none⟩)] (by kernel_rfl) (by kernel_rfl) ?_
      refine (c_i_balloonOf_1 w2732 y2740 ((g2745 0).1) ((g2745 0).2) ((hi2744.mem0 M2733).at_ hg2746 0 ⟨Int, Gx.encI, y2740.Gave, (g2745 0).1, (g2745 0).2⟩ (by kernel_rfl)) x2683 b2684 (M2733.ro hb2685) hr2748).mono ?_
      rintro e_ w2749 ⟨rfl, K2750⟩
      have M2751 := M2733.call0 K2750
      refine ⟨_, rfl, ?_⟩
      refine W_nil ?_
      refine N_then ?_
      rcases gx_bif hm with ⟨hc2752, hm⟩ | ⟨hc2752, hm⟩
      · refine G_cond_t (b := r2748) hc2752 (by kernel_rfl) ?_
        refine G_seq ?_
        refine G_region ?_
        refine W_run 2 [(4, .int .i64 s2728)] w2749 (by kernel_rfl) ?_
        refine W_nil ?_
        refine N_then ?_
        refine G_ret ?_
        refine N_block_ret ?_
        refine N_then_ret ?_
        refine N_then_ret ?_
        obtain rfl := Option.some.inj hm
        obtain rfl := hout2730 _ rfl
        have hm := hmo2737; simp only [Sum.elim_inr] at hm
        refine N_block_ret ?_
        refine N_meet_ret ?_
        refine N_then_ret ?_
        obtain rfl := Option.some.inj hm
        refine N_ret [.int .i64 s2728] (RVs_cons (RV_tmp (by kernel_rfl)) RVs_nil) ?_
        exact ⟨rfl, M2751.pick [] (by kernel_rfl)⟩
      refine G_cond_f (b := r2748) hc2752 (by kernel_rfl) ?_
      refine G_skip ?_
      refine N_block ?_
      refine N_then ?_
      refine G_region ?_
      refine W_run 2 [(0, .slice p2680 x2678.length c2681), (1, .func (.func 86) #[] #[.pointer (some ⟨b2684, 0, none⟩)]), (7, .int .i64 (x2678.length : Int)), (8, .int .i64 (w64 (s2728 + 1)))] w2749 (by kernel_rfl) ?_
      refine W_nil ?_
      obtain rfl := Option.some.inj hm
      exact N_loop fun a ha => ⟨_, rfl, M2751.pick [] (by kernel_rfl), ha.sub (by kernel_rfl)⟩
    refine G_cond_f (b := (decide (s2728 < (x2678.length : Int)))) hc2739 (by kernel_rfl) ?_
    refine G_exit ?_
    refine N_then_exit ?_
    refine N_then_exit ?_
    refine N_block_eq ?_
    obtain rfl := Option.some.inj hm
    obtain rfl := hout2730 _ rfl
    exact N_meet fun a ha => ⟨_, rfl, M2733.pick [] (by kernel_rfl), ha.sub (by kernel_rfl)⟩
  intro a2753 w2754 ⟨o2738, hout_, M2755, hS2756⟩
  refine N_use hS2756 ?_
  subst hout_
  have hm := hmo2737; simp only [Sum.elim_inl] at hm
  refine N_then ?_
  refine G_seq ?_
  refine G_region ?_
  refine W_run 1 [(4, .int .i64 (-1))] w2754 (by kernel_rfl) ?_
  refine W_nil ?_
  refine N_then ?_
  refine G_ret ?_
  obtain rfl := Option.some.inj hm
  refine N_ret [.int .i64 (-1)] (RVs_cons (RV_tmp (by kernel_rfl)) RVs_nil) ?_
  exact ⟨rfl, M2755.pick [] (by kernel_rfl)⟩
theorem c_i_inside (w : World) (x2776 : Int) (x2777 : Int) (x2778 : Int) {r : Bool} (hm : M.i_inside x2776 x2777 x2778 = some r) :
    Calls Try.prog 82 #[.int .i64 x2776, .int .i64 x2777, .int .i64 x2778] w fun e w' => e = .returned (.bool r) ∧ Mem [] w w' [] := by
  unfold M.i_inside at hm
  refine C_enter Try.func82 rfl (by kernel_rfl) ?_
  have M0 := Mem.refl [] w
  refine G_seq ?_
  refine G_region ?_
  refine W_run 1 [(0, .int .i64 x2776), (1, .int .i64 x2777), (2, .int .i64 x2778)] w (by kernel_rfl) ?_
  refine W_nil ?_
  refine N_then ?_
  refine G_seq ?_
  obtain ⟨o2780, ho2781, hm2782⟩ := gx_bind hm
  refine G_meet (fun a w' => Mem [] w w' [] ∧ Sat Try.f82.ntmps [(6, .bool o2780)] a) ?_ ?_
  · have hm := ho2781
    refine G_region ?_
    refine W_run 4 [(0, .int .i64 x2776), (2, .int .i64 x2778), (10, .bool (decide (x2776 ≥ x2777)))] w (by kernel_rfl) ?_
    rcases gx_bif hm with ⟨hc2783, hm⟩ | ⟨hc2783, hm⟩
    · refine W_known 10 true (by kernel_rfl) hc2783 ?_
      refine W_run 5 [(6, .bool (decide (x2776 ≤ x2778)))] w (by kernel_rfl) ?_
      refine W_nil ?_
      obtain rfl := Option.some.inj hm
      exact N_meet fun a ha => ⟨M0.pick [] (by kernel_rfl), ha.sub (by kernel_rfl)⟩
    refine W_known 10 false (by kernel_rfl) hc2783 ?_
    refine W_run 5 [(6, .bool false)] w (by kernel_rfl) ?_
    refine W_nil ?_
    obtain rfl := Option.some.inj hm
    exact N_meet fun a ha => ⟨M0.pick [] (by kernel_rfl), ha.sub (by kernel_rfl)⟩
  intro a2786 w2784 ⟨M2785, hS2787⟩
  refine N_use hS2787 ?_
  have hm := hm2782
  refine N_then ?_
  refine G_ret ?_
  obtain rfl := Option.some.inj hm
  refine N_ret [.bool o2780] (RVs_cons (RV_tmp (by kernel_rfl)) RVs_nil) ?_
  exact ⟨rfl, M2785.pick [] (by kernel_rfl)⟩
theorem c_i_AreOwners_1 (w : World) (x2805 : Int) {r : Bool} (hm : M.i_AreOwners_1 x2805 = some r) :
    Calls Try.prog 84 #[.int .i64 x2805] w fun e w' => e = .returned (.bool r) ∧ Mem [] w w' [] := by
  unfold M.i_AreOwners_1 at hm
  refine C_enter Try.func84 rfl (by kernel_rfl) ?_
  have M0 := Mem.refl [] w
  refine G_seq ?_
  refine G_region ?_
  refine W_run 1 [(0, .int .i64 x2805)] w (by kernel_rfl) ?_
  refine W_nil ?_
  refine N_then ?_
  refine G_seq ?_
  refine G_region ?_
  refine W_run 1 [(3, .int .i64 x2805)] w (by kernel_rfl) ?_
  obtain ⟨r2806, hr2806, hm⟩ := gx_bind hm
  refine W_call 82 #[.int .i64 x2805, .int .i64 0, .int .i64 4] (by kernel_rfl) (by kernel_rfl) ?_
  refine (c_i_inside w x2805 0 4 hr2806).mono ?_
  rintro e_ w2807 ⟨rfl, K2808⟩
  have M2809 := M0.call0 K2808
  refine ⟨_, rfl, ?_⟩
  refine W_run 2 [(2, .bool (!r2806))] w2807 (by kernel_rfl) ?_
  refine W_nil ?_
  refine N_then ?_
  refine G_ret ?_
  obtain rfl := Option.some.inj hm
  refine N_ret [.bool (!r2806)] (RVs_cons (RV_tmp (by kernel_rfl)) RVs_nil) ?_
  exact ⟨rfl, M2809.pick [] (by kernel_rfl)⟩
theorem c_slices_IndexFunc_91__i_AreOwners_1 (w : World) (x2798 : List Int) (p2800 : Option Addr) (c2801 : Nat) (h2802 : rdS Gx.encI w x2798 p2800 c2801) {r : Int} (hm : M.slices_IndexFunc_91__i_AreOwners_1 x2798 = some r) :
    Calls Try.prog 91 #[.slice p2800 x2798.length c2801, .func (.func 84) #[] #[]] w fun e w' => e = .returned (.int .i64 r) ∧ Mem [] w w' [] := by
  unfold M.slices_IndexFunc_91__i_AreOwners_1 at hm
  refine C_enter Try.func91 rfl (by kernel_rfl) ?_
  have M0 := Mem.refl [] w
  refine G_seq ?_
  refine G_region ?_
  refine W_run 1 [(0, .slice p2800 x2798.length c2801), (1, .func (.func 84) #[] #[])] w (by kernel_rfl) ?_
  refine W_nil ?_
  refine N_then ?_
  refine G_seq ?_
  refine G_seq ?_
  refine G_region ?_
  refine W_run 3 [(0, .slice p2800 x2798.length c2801), (1, .func (.func 84) #[] #[]), (7, .int .i64 (x2798.length : Int)), (8, .int .i64 0)] w (by kernel_rfl) ?_
  refine W_nil ?_
  refine N_then ?_
  obtain ⟨out2829, hw2830, hmo2831⟩ := gx_bind hm
  refine G_meet (fun a w' => ∃ (o2832 : Unit), out2829 = .inl o2832 ∧ Mem [] w w' [] ∧ Sat Try.f91.ntmps [] a) ?_ ?_
  · refine G_block ?_
    refine G_while (σ := Int) (ρ := (Unit) ⊕ (Int)) (fun s2822 a w' => Mem [] w w' [] ∧ Sat Try.f91.ntmps [(0, .slice p2800 x2798.length c2801), (1, .func (.func 84) #[] #[]), (7, .int .i64 (x2798.length : Int)), (8, .int .i64 s2822)] a) hw2830 (fun a ha => ⟨M0.pick [] (by kernel_rfl), ha.sub (by kernel_rfl)⟩) ?_
    clear hm
    intro s2822 x2823 hm hout2824 a2825 w2826 ⟨M2827, hS2828⟩
    refine G_use hS2828 ?_
    refine G_seq ?_
    refine G_region ?_
    refine W_run 1 [(0, .slice p2800 x2798.length c2801), (1, .func (.func 84) #[] #[]), (7, .int .i64 (x2798.length : Int)), (8, .int .i64 s2822), (9, .bool (decide (s2822 < (x2798.length : Int))))] w2826 (by kernel_rfl) ?_
    refine W_nil ?_
    refine N_then ?_
    refine G_seq ?_
    rcases gx_bif hm with ⟨hc2833, hm⟩ | ⟨hc2833, hm⟩
    · refine G_cond_t (b := (decide (s2822 < (x2798.length : Int)))) hc2833 (by kernel_rfl) ?_
      refine G_skip ?_
      refine N_then ?_
      refine G_seq ?_
      refine G_block ?_
      refine G_seq ?_
      refine G_region ?_
      refine W_run 2 [(0, .slice p2800 x2798.length c2801), (1, .func (.func 84) #[] #[]), (5, .int .i64 s2822), (7, .int .i64 (x2798.length : Int)), (8, .int .i64 s2822)] w2826 (by kernel_rfl) ?_
      refine W_nil ?_
      refine N_then ?_
      refine G_seq ?_
      refine G_region ?_
      refine W_run 3 [(0, .slice p2800 x2798.length c2801), (1, .func (.func 84) #[] #[]), (5, .int .i64 s2822), (7, .int .i64 (x2798.length : Int)), (8, .int .i64 s2822), (11, .func (.func 84) #[] #[]), (12, .slice p2800 x2798.length c2801), (13, .int .i64 s2822)] w2826 (by kernel_rfl) ?_
      obtain ⟨y2834, hy2834, hm⟩ := gx_bind hm
      refine W_val (elemP p2800 (s2822.toNat * 1)) w2826 (by kernel_rfl) (E_index (E := Gx.encI) _ _ _ x2798.length c2801 .i64 s2822 1 (y := y2834) rfl (by kernel_rfl) (by kernel_rfl) (by kernel_rfl) (h2802.mem0 M2827) rfl hy2834) ?_
      refine W_val (.int .i64 y2834) w2826 (by kernel_rfl) (E_loadE (E := Gx.encI) _ _ false 1 s2822 0 (s2822.toNat * 1) y2834 (.int .i64 y2834) rfl (by kernel_rfl) (by kernel_rfl) (by kernel_rfl) (h2802.mem0 M2827) hy2834 rfl) ?_
      obtain ⟨r2835, hr2835, hm⟩ := gx_bind hm
      refine W_call 84 #[.int .i64 y2834] (by kernel_rfl) (by kernel_rfl) ?_
      refine (c_i_AreOwners_1 w2826 y2834 hr2835).mono ?_
      rintro e_ w2836 ⟨rfl, K2837⟩
      have M2838 := M2827.call0 K2837
      refine ⟨_, rfl, ?_⟩
      refine W_nil ?_
      refine N_then ?_
      rcases gx_bif hm with ⟨hc2839, hm⟩ | ⟨hc2839, hm⟩
      · refine G_cond_t (b := r2835) hc2839 (by kernel_rfl) ?_
        refine G_seq ?_
        refine G_region ?_
        refine W_run 2 [(4, .int .i64 s2822)] w2836 (by kernel_rfl) ?_
        refine W_nil ?_
        refine N_then ?_
        refine G_ret ?_
        refine N_block_ret ?_
        refine N_then_ret ?_
        refine N_then_ret ?_
        obtain rfl := Option.some.inj hm
        obtain rfl := hout2824 _ rfl
        have hm := hmo2831; simp only [Sum.elim_inr] at hm
        refine N_block_ret ?_
        refine N_meet_ret ?_
        refine N_then_ret ?_
        obtain rfl := Option.some.inj hm
        refine N_ret [.int .i64 s2822] (RVs_cons (RV_tmp (by kernel_rfl)) RVs_nil) ?_
        exact ⟨rfl, M2838.pick [] (by kernel_rfl)⟩
      refine G_cond_f (b := r2835) hc2839 (by kernel_rfl) ?_
      refine G_skip ?_
      refine N_block ?_
      refine N_then ?_
      refine G_region ?_
      refine W_run 2 [(0, .slice p2800 x2798.length c2801), (1, .func (.func 84) #[] #[]), (7, .int .i64 (x2798.length : Int)), (8, .int .i64 (w64 (s2822 + 1)))] w2836 (by kernel_rfl) ?_
      refine W_nil ?_
      obtain rfl := Option.some.inj hm
      exact N_loop fun a ha => ⟨_, rfl, M2838.pick [] (by kernel_rfl), ha.sub (by kernel_rfl)⟩
    refine G_cond_f (b := (decide (s2822 < (x2798.length : Int)))) hc2833 (by kernel_rfl) ?_
    refine G_exit ?_
    refine N_then_exit ?_
    refine N_then_exit ?_
    refine N_block_eq ?_
    obtain rfl := Option.some.inj hm
    obtain rfl := hout2824 _ rfl
    exact N_meet fun a ha => ⟨_, rfl, M2827.pick [] (by kernel_rfl), ha.sub (by kernel_rfl)⟩
  intro a2840 w2841 ⟨o2832, hout_, M2842, hS2843⟩
  refine N_use hS2843 ?_
  subst hout_
  have hm := hmo2831; simp only [Sum.elim_inl] at hm
  refine N_then ?_
  refine G_seq ?_
  refine G_region ?_
  refine W_run 1 [(4, .int .i64 (-1))] w2841 (by kernel_rfl) ?_
  refine W_nil ?_
  refine N_then ?_
  refine G_ret ?_
  obtain rfl := Option.some.inj hm
  refine N_ret [.int .i64 (-1)] (RVs_cons (RV_tmp (by kernel_rfl)) RVs_nil) ?_
  exact ⟨rfl, M2842.pick [] (by kernel_rfl)⟩
theorem c_slices_ContainsFunc_83__i_AreOwners_1 (w : World) (x2793 : List Int) (p2795 : Option Addr) (c2796 : Nat) (h2797 : rdS Gx.encI w x2793 p2795 c2796) {r : Bool} (hm : M.slices_ContainsFunc_83__i_AreOwners_1 x2793 = some r) :
    Calls Try.prog 83 #[.slice p2795 x2793.length c2796, .func (.func 84) #[] #[]] w fun e w' => e = .returned (.bool r) ∧ Mem [] w w' [] := by
  unfold M.slices_ContainsFunc_83__i_AreOwners_1 at hm
  refine C_enter Try.func83 rfl (by kernel_rfl) ?_
  have M0 := Mem.refl [] w
  refine G_seq ?_
  refine G_region ?_
  refine W_run 1 [(0, .slice p2795 x2793.length c2796), (1, .func (.func 84) #[] #[])] w (by kernel_rfl) ?_
  refine W_nil ?_
  refine N_then ?_
  refine G_seq ?_
  refine G_region ?_
  refine W_run 2 [(5, .slice p2795 x2793.length c2796), (6, .func (.func 84) #[] #[])] w (by kernel_rfl) ?_
  obtain ⟨r2844, hr2844, hm⟩ := gx_bind hm
  refine W_call 91 #[.slice p2795 x2793.length c2796, .func (.func 84) #[] #[]] (by kernel_rfl) (by kernel_rfl) ?_
  refine (c_slices_IndexFunc_91__i_AreOwners_1 w x2793 p2795 c2796 (h2797.mem0 M0) hr2844).mono ?_
  rintro e_ w2845 ⟨rfl, K2846⟩
  have M2847 := M0.call0 K2846
  refine ⟨_, rfl, ?_⟩
  refine W_run 2 [(4, .bool (decide (r2844 ≥ 0)))] w2845 (by kernel_rfl) ?_
  refine W_nil ?_
  refine N_then ?_
  refine G_ret ?_
  obtain rfl := Option.some.inj hm
  refine N_ret [.bool (decide (r2844 ≥ 0))] (RVs_cons (RV_tmp (by kernel_rfl)) RVs_nil) ?_
  exact ⟨rfl, M2847.pick [] (by kernel_rfl)⟩
theorem c_i_AreOwners (w : World) (x2771 : List Int) (p2773 : Option Addr) (c2774 : Nat) (h2775 : rdS Gx.encI w x2771 p2773 c2774) {r : Bool} (hm : M.i_AreOwners x2771 = some r) :
    Calls Try.prog 49 #[.slice p2773 x2771.length c2774] w fun e w' => e = .returned (.bool r) ∧ Mem [] w w' [] := by
  unfold M.i_AreOwners at hm
  refine C_enter Try.func49 rfl (by kernel_rfl) ?_
  have M0 := Mem.refl [] w
  refine G_seq ?_
  refine G_region ?_
  refine W_run 1 [(0, .slice p2773 x2771.length c2774)] w (by kernel_rfl) ?_
  refine W_nil ?_
  refine N_then ?_
  refine G_seq ?_
  obtain ⟨o2852, ho2853, hm2854⟩ := gx_bind hm
  refine G_meet (fun a w' => Mem [] w w' [] ∧ Sat Try.f49.ntmps [(2, .bool o2852)] a) ?_ ?_
  · have hm := ho2853
    refine G_region ?_
    refine W_run 2 [(0, .slice p2773 x2771.length c2774), (4, .int .i64 (x2771.length : Int))] w (by kernel_rfl) ?_
    obtain ⟨r2855, hr2855, hm⟩ := gx_bind hm
    refine W_call 82 #[.int .i64 (x2771.length : Int), .int .i64 1, .int .i64 16] (by kernel_rfl) (by kernel_rfl) ?_
    refine (c_i_inside w (x2771.length : Int) 1 16 hr2855).mono ?_
    rintro e_ w2856 ⟨rfl, K2857⟩
    have M2858 := M0.call0 K2857
    refine ⟨_, rfl, ?_⟩
    refine W_run 1 [(0, .slice p2773 x2771.length c2774), (6, .bool r2855)] w2856 (by kernel_rfl) ?_
    rcases gx_bif hm with ⟨hc2859, hm⟩ | ⟨hc2859, hm⟩
    · refine W_known 6 true (by kernel_rfl) hc2859 ?_
      refine W_run 1 [(6, .bool true), (7, .slice p2773 x2771.length c2774)] w2856 (by kernel_rfl) ?_
      obtain ⟨r2860, hr2860, hm⟩ := gx_bind hm
      refine W_call 83 #[.slice p2773 x2771.length c2774, .func (.func 84) #[] #[]] (by kernel_rfl) (by kernel_rfl) ?_
      refine (c_slices_ContainsFunc_83__i_AreOwners_1 w2856 x2771 p2773 c2774 (h2775.mem0 M2858) hr2860).mono ?_
      rintro e_ w2861 ⟨rfl, K2862⟩
      have M2863 := M2858.call0 K2862
      refine ⟨_, rfl, ?_⟩
      refine W_run 3 [(2, .bool (!r2860))] w2861 (by kernel_rfl) ?_
      refine W_nil ?_
      obtain rfl := Option.some.inj hm
      exact N_meet fun a ha => ⟨M2863.pick [] (by kernel_rfl), ha.sub (by kernel_rfl)⟩
    refine W_known 6 false (by kernel_rfl) hc2859 ?_
    refine W_run 5 [(2, .bool false)] w2856 (by kernel_rfl) ?_
    refine W_nil ?_
    obtain rfl := Option.some.inj hm
    exact N_meet fun a ha => ⟨M2858.pick [] (by kernel_rfl), ha.sub (by kernel_rfl)⟩
  intro a2866 w2864 ⟨M2865, hS2867⟩
  refine N_use hS2867 ?_
  have hm := hm2854
  refine N_then ?_
  refine G_ret ?_
  obtain rfl := Option.some.inj hm
  refine N_ret [.bool o2852] (RVs_cons (RV_tmp (by kernel_rfl)) RVs_nil) ?_
  exact ⟨rfl, M2865.pick [] (by kernel_rfl)⟩
theorem c_i_isGuest (w : World) (x2896 : Int) {r : Bool} (hm : M.i_isGuest x2896 = some r) :
    Calls Try.prog 50 #[.int .i64 x2896] w fun e w' => e = .returned (.bool r) ∧ Mem [] w w' [] := by
  unfold M.i_isGuest at hm
  refine C_enter Try.func50 rfl (by kernel_rfl) ?_
  have M0 := Mem.refl [] w
  refine G_seq ?_
  refine G_region ?_
  refine W_run 1 [(0, .int .i64 x2896)] w (by kernel_rfl) ?_
  refine W_nil ?_
  refine N_then ?_
  refine G_seq ?_
  refine G_region ?_
  refine W_run 1 [(3, .int .i64 x2896)] w (by kernel_rfl) ?_
  obtain ⟨r2897, hr2897, hm⟩ := gx_bind hm
  refine W_call 82 #[.int .i64 x2896, .int .i64 1, .int .i64 4] (by kernel_rfl) (by kernel_rfl) ?_
  refine (c_i_inside w x2896 1 4 hr2897).mono ?_
  rintro e_ w2898 ⟨rfl, K2899⟩
  have M2900 := M0.call0 K2899
  refine ⟨_, rfl, ?_⟩
  refine W_run 1 [(2, .bool r2897)] w2898 (by kernel_rfl) ?_
  refine W_nil ?_
  refine N_then ?_
  refine G_ret ?_
  obtain rfl := Option.some.inj hm
  refine N_ret [.bool r2897] (RVs_cons (RV_tmp (by kernel_rfl)) RVs_nil) ?_
  exact ⟨rfl, M2900.pick [] (by kernel_rfl)⟩
end Go.Proofs.Ytlfligjpmodefaa
