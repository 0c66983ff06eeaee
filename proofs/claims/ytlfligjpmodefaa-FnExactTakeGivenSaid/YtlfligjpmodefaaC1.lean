/- The walks, printed by program: whenever the model gives r, the call returns r. Part 1. -/
import Derived.Test.YtlfligjpmodefaaM
import Derived.Test.YtlfligjpmodefaaProg
import Derived.Test.YtlfligjpmodefaaSh
set_option linter.unusedVariables false
set_option maxRecDepth 100000
set_option maxHeartbeats 4000000
namespace Go.Proofs.Ytlfligjpmodefaa
open Go.Gx
theorem c_l_szIntS (w : World) (x38 : List Int) (p40 : Option Addr) (c41 : Nat) (h42 : rdS Gx.encI w x38 p40 c41) (x43 : Int) {r : Int} (hm : M.l_szIntS x38 x43 = some r) :
    Calls Try.prog 78 #[.slice p40 x38.length c41, .int .i64 x43] w fun e w' => e = .returned (.int .i64 r) ∧ Mem [] w w' [] := by
  unfold M.l_szIntS at hm
  refine C_enter Try.func78 rfl (by kernel_rfl) ?_
  have M0 := Mem.refl [] w
  refine G_seq ?_
  refine G_region ?_
  refine W_run 1 [(0, .slice p40 x38.length c41), (1, .int .i64 x43)] w (by kernel_rfl) ?_
  refine W_nil ?_
  refine N_then ?_
  refine G_seq ?_
  refine G_region ?_
  refine W_run 5 [(1, .int .i64 (w64 (x43 - (x38.length : Int))))] w (by kernel_rfl) ?_
  refine W_nil ?_
  refine N_then ?_
  refine G_seq ?_
  refine G_seq ?_
  refine G_region ?_
  refine W_run 2 [(1, .int .i64 (w64 (x43 - (x38.length : Int)))), (10, .bool (decide ((w64 (x43 - (x38.length : Int))) < 0)))] w (by kernel_rfl) ?_
  refine W_nil ?_
  refine N_then ?_
  rcases gx_bif hm with ⟨hc44, hm⟩ | ⟨hc44, hm⟩
  · refine G_cond_t (b := (decide ((w64 (x43 - (x38.length : Int))) < 0))) hc44 (by kernel_rfl) ?_
    refine G_seq ?_
    refine G_region ?_
    refine W_run 1 [(4, .int .i64 (-1))] w (by kernel_rfl) ?_
    refine W_nil ?_
    refine N_then ?_
    refine G_ret ?_
    refine N_then_ret ?_
    obtain rfl := Option.some.inj hm
    refine N_ret [.int .i64 (-1)] (RVs_cons (RV_tmp (by kernel_rfl)) RVs_nil) ?_
    exact ⟨rfl, M0.pick [] (by kernel_rfl)⟩
  refine G_cond_f (b := (decide ((w64 (x43 - (x38.length : Int))) < 0))) hc44 (by kernel_rfl) ?_
  refine G_skip ?_
  refine N_then ?_
  refine G_seq ?_
  refine G_region ?_
  refine W_run 2 [(4, .int .i64 (w64 (x43 - (x38.length : Int))))] w (by kernel_rfl) ?_
  refine W_nil ?_
  refine N_then ?_
  refine G_ret ?_
  obtain rfl := Option.some.inj hm
  refine N_ret [.int .i64 (w64 (x43 - (x38.length : Int)))] (RVs_cons (RV_tmp (by kernel_rfl)) RVs_nil) ?_
  exact ⟨rfl, M0.pick [] (by kernel_rfl)⟩
theorem c_l_szBalloon (w : World) (x28 : Balloon) (p30 : Option Addr) (c31 : Nat) (h32 : rdS Gx.encI w x28.Gave p30 c31) (x33 : Int) {r : Int} (hm : M.l_szBalloon x28 x33 = some r) :
    Calls Try.prog 46 #[.agg #[.int .i64 x28.Guest, .int .i64 x28.Goal, .slice p30 x28.Gave.length c31], .int .i64 x33] w fun e w' => e = .returned (.int .i64 r) ∧ Mem [] w w' [] := by
  unfold M.l_szBalloon at hm
  refine C_enter Try.func46 rfl (by kernel_rfl) ?_
  have M0 := Mem.refl [] w
  refine G_seq ?_
  refine G_region ?_
  refine W_new (fun b => .pointer (some ⟨b, 0, none⟩)) (.cells ⟨[.int .i64 x28.Guest, .int .i64 x28.Goal, .slice p30 x28.Gave.length c31]⟩ 56 (0, 0)) M0 rfl (by kernel_rfl) (by kernel_rfl) ?_
  intro b35 w36 M37
  refine W_run 1 [(1, .int .i64 x33), (2, .pointer (some ⟨b35, 0, none⟩))] w36 (by kernel_rfl) ?_
  refine W_nil ?_
  refine N_then ?_
  refine G_seq ?_
  refine G_region ?_
  refine W_run 1 [(1, .int .i64 x33), (5, .pointer (some ⟨b35, 2, none⟩))] w36 (by kernel_rfl) ?_
  refine W_val (.slice p30 x28.Gave.length c31) w36 (by kernel_rfl) (E_load (e := 56) (fr := (0, 0)) _ _ false 1 b35 2 [.int .i64 x28.Guest, .int .i64 x28.Goal, .slice p30 x28.Gave.length c31] (.slice p30 x28.Gave.length c31) rfl (by kernel_rfl) (by kernel_rfl) (by kernel_rfl) (M37.blk 0 (b := b35) (o := .cells ⟨[.int .i64 x28.Guest, .int .i64 x28.Goal, .slice p30 x28.Gave.length c31]⟩ 56 (0, 0)) (by kernel_rfl))) ?_
  refine W_run 1 [(1, .int .i64 x33), (6, .slice p30 x28.Gave.length c31), (7, .int .i64 x33)] w36 (by kernel_rfl) ?_
  obtain ⟨r45, hr45, hm⟩ := gx_bind hm
  refine W_call 78 #[.slice p30 x28.Gave.length c31, .int .i64 x33] (by kernel_rfl) (by kernel_rfl) ?_
  refine (c_l_szIntS w36 x28.Gave p30 c31 (h32.mem0 M37) x33 hr45).mono ?_
  rintro e_ w46 ⟨rfl, K47⟩
  have M48 := M37.call0 K47
  refine ⟨_, rfl, ?_⟩
  refine W_run 1 [(1, .int .i64 r45)] w46 (by kernel_rfl) ?_
  refine W_nil ?_
  refine N_then ?_
  refine G_seq ?_
  refine G_seq ?_
  refine G_region ?_
  refine W_run 2 [(1, .int .i64 r45), (10, .bool (decide (r45 < 0)))] w46 (by kernel_rfl) ?_
  refine W_nil ?_
  refine N_then ?_
  rcases gx_bif hm with ⟨hc49, hm⟩ | ⟨hc49, hm⟩
  · refine G_cond_t (b := (decide (r45 < 0))) hc49 (by kernel_rfl) ?_
    refine G_seq ?_
    refine G_region ?_
    refine W_run 1 [(4, .int .i64 (-1))] w46 (by kernel_rfl) ?_
    refine W_nil ?_
    refine N_then ?_
    refine G_ret ?_
    refine N_then_ret ?_
    obtain rfl := Option.some.inj hm
    refine N_ret [.int .i64 (-1)] (RVs_cons (RV_tmp (by kernel_rfl)) RVs_nil) ?_
    exact ⟨rfl, M48.pick [] (by kernel_rfl)⟩
  refine G_cond_f (b := (decide (r45 < 0))) hc49 (by kernel_rfl) ?_
  refine G_skip ?_
  refine N_then ?_
  refine G_seq ?_
  refine G_region ?_
  refine W_run 2 [(4, .int .i64 r45)] w46 (by kernel_rfl) ?_
  refine W_nil ?_
  refine N_then ?_
  refine G_ret ?_
  obtain rfl := Option.some.inj hm
  refine N_ret [.int .i64 r45] (RVs_cons (RV_tmp (by kernel_rfl)) RVs_nil) ?_
  exact ⟨rfl, M48.pick [] (by kernel_rfl)⟩
theorem c_l_szBalloonS (w : World) (x12 : List Balloon) (p14 : Option Addr) (c15 : Nat) (h16 : rdD deepBalloon w x12 p14 c15) (x17 : Int) {r : Int} (hm : M.l_szBalloonS x12 x17 = some r) :
    Calls Try.prog 13 #[.slice p14 x12.length c15, .int .i64 x17] w fun e w' => e = .returned (.int .i64 r) ∧ Mem [] w w' [] := by
  unfold M.l_szBalloonS at hm
  refine C_enter Try.func13 rfl (by kernel_rfl) ?_
  have M0 := Mem.refl [] w
  refine G_seq ?_
  refine G_region ?_
  refine W_run 1 [(0, .slice p14 x12.length c15), (1, .int .i64 x17)] w (by kernel_rfl) ?_
  refine W_nil ?_
  refine N_then ?_
  refine G_seq ?_
  refine G_region ?_
  refine W_run 5 [(0, .slice p14 x12.length c15), (1, .int .i64 (w64 (x17 - (x12.length : Int))))] w (by kernel_rfl) ?_
  refine W_nil ?_
  refine N_then ?_
  refine G_seq ?_
  refine G_seq ?_
  refine G_region ?_
  refine W_run 2 [(0, .slice p14 x12.length c15), (1, .int .i64 (w64 (x17 - (x12.length : Int)))), (11, .bool (decide ((w64 (x17 - (x12.length : Int))) < 0)))] w (by kernel_rfl) ?_
  refine W_nil ?_
  refine N_then ?_
  rcases gx_bif hm with ⟨hc18, hm⟩ | ⟨hc18, hm⟩
  · refine G_cond_t (b := (decide ((w64 (x17 - (x12.length : Int))) < 0))) hc18 (by kernel_rfl) ?_
    refine G_seq ?_
    refine G_region ?_
    refine W_run 1 [(4, .int .i64 (-1))] w (by kernel_rfl) ?_
    refine W_nil ?_
    refine N_then ?_
    refine G_ret ?_
    refine N_then_ret ?_
    obtain rfl := Option.some.inj hm
    refine N_ret [.int .i64 (-1)] (RVs_cons (RV_tmp (by kernel_rfl)) RVs_nil) ?_
    exact ⟨rfl, M0.pick [] (by kernel_rfl)⟩
  refine G_cond_f (b := (decide ((w64 (x17 - (x12.length : Int))) < 0))) hc18 (by kernel_rfl) ?_
  refine G_skip ?_
  refine N_then ?_
  refine G_seq ?_
  refine G_seq ?_
  refine G_region ?_
  refine W_run 1 [(0, .slice p14 x12.length c15), (1, .int .i64 (w64 (x17 - (x12.length : Int)))), (5, .int .i64 0)] w (by kernel_rfl) ?_
  refine W_nil ?_
  refine N_then ?_
  obtain ⟨out76, hw77, hmo78⟩ := gx_bind hm
  refine G_meet (fun a w' => ∃ (o79 : Int), out76 = .inl o79 ∧ Mem [] w w' [] ∧ Sat Try.f13.ntmps [(1, .int .i64 o79)] a) ?_ ?_
  · refine G_block ?_
    refine G_while (σ := Int × Int) (ρ := (Int) ⊕ (Int)) (fun s69 a w' => Mem [] w w' [] ∧ Sat Try.f13.ntmps [(0, .slice p14 x12.length c15), (1, .int .i64 s69.1), (5, .int .i64 s69.2)] a) hw77 (fun a ha => ⟨M0.pick [] (by kernel_rfl), ha.sub (by kernel_rfl)⟩) ?_
    clear hm
    intro s69 x70 hm hout71 a72 w73 ⟨M74, hS75⟩
    refine G_use hS75 ?_
    refine G_seq ?_
    refine G_seq ?_
    refine G_region ?_
    refine W_run 4 [(0, .slice p14 x12.length c15), (1, .int .i64 s69.1), (5, .int .i64 s69.2), (15, .bool (decide (s69.2 < (x12.length : Int))))] w73 (by kernel_rfl) ?_
    refine W_nil ?_
    refine N_then ?_
    rcases gx_bif hm with ⟨hc80, hm⟩ | ⟨hc80, hm⟩
    · refine G_cond_t (b := (decide (s69.2 < (x12.length : Int)))) hc80 (by kernel_rfl) ?_
      refine G_skip ?_
      refine N_then ?_
      refine G_seq ?_
      refine G_block ?_
      refine G_seq ?_
      refine G_region ?_
      refine W_run 2 [(0, .slice p14 x12.length c15), (1, .int .i64 s69.1), (5, .int .i64 s69.2), (18, .slice p14 x12.length c15), (19, .int .i64 s69.2)] w73 (by kernel_rfl) ?_
      obtain ⟨y81, hy81, hm⟩ := gx_bind hm
      obtain ⟨zs82, hz83, hr84, hi85⟩ := id h16
      obtain ⟨g86, hg87⟩ := gxIdx_fst hz83 hy81
      refine W_val (elemP p14 (s69.2.toNat * 3)) w73 (by kernel_rfl) (E_index (E := deepBalloon.E) _ _ _ x12.length c15 .i64 s69.2 3 (y := (y81, g86)) rfl (by kernel_rfl) (by kernel_rfl) (by kernel_rfl) (hr84.mem0 M74) (len_fst hz83) hg87) ?_
      refine W_val (.agg #[.int .i64 y81.Guest, .int .i64 y81.Goal, .slice ((g86 0).1) y81.Gave.length ((g86 0).2)]) w73 (by kernel_rfl) (E_loadE (E := deepBalloon.E) _ _ true 3 s69.2 0 (s69.2.toNat * 3) (y81, g86) (.agg #[.int .i64 y81.Guest, .int .i64 y81.Goal, .slice ((g86 0).1) y81.Gave.length ((g86 0).2)]) rfl (by kernel_rfl) (by kernel_rfl) (by kernel_rfl) (hr84.mem0 M74) hg87 rfl) ?_
      refine W_run 1 [(0, .slice p14 x12.length c15), (1, .int .i64 s69.1), (5, .int .i64 s69.2), (21, .agg #[.int .i64 y81.Guest, .int .i64 y81.Goal, .slice ((g86 0).1) y81.Gave.length ((g86 0).2)]), (22, .int .i64 s69.1)] w73 (by kernel_rfl) ?_
      obtain ⟨r89, hr89, hm⟩ := gx_bind hm
      refine W_call 46 #[.agg #[.int .i64 y81.Guest, .int .i64 y81.Goal, .slice ((g86 0).1) y81.Gave.length ((g86 0).2)], .int .i64 s69.1] (by kernel_rfl) (by kernel_rfl) ?_
      refine (c_l_szBalloon w73 y81 ((g86 0).1) ((g86 0).2) ((hi85.mem0 M74).at_ hg87 0 ⟨Int, Gx.encI, y81.Gave, (g86 0).1, (g86 0).2⟩ (by kernel_rfl)) s69.1 hr89).mono ?_
      rintro e_ w90 ⟨rfl, K91⟩
      have M92 := M74.call0 K91
      refine ⟨_, rfl, ?_⟩
      refine W_run 1 [(0, .slice p14 x12.length c15), (1, .int .i64 r89), (5, .int .i64 s69.2)] w90 (by kernel_rfl) ?_
      refine W_nil ?_
      refine N_then ?_
      refine G_seq ?_
      refine G_region ?_
      refine W_run 2 [(0, .slice p14 x12.length c15), (1, .int .i64 r89), (5, .int .i64 s69.2), (25, .bool (decide (r89 < 0)))] w90 (by kernel_rfl) ?_
      refine W_nil ?_
      refine N_then ?_
      rcases gx_bif hm with ⟨hc93, hm⟩ | ⟨hc93, hm⟩
      · refine G_cond_t (b := (decide (r89 < 0))) hc93 (by kernel_rfl) ?_
        refine G_seq ?_
        refine G_region ?_
        refine W_run 1 [(4, .int .i64 (-1))] w90 (by kernel_rfl) ?_
        refine W_nil ?_
        refine N_then ?_
        refine G_ret ?_
        refine N_block_ret ?_
        refine N_then_ret ?_
        refine N_then_ret ?_
        obtain rfl := Option.some.inj hm
        obtain rfl := hout71 _ rfl
        have hm := hmo78; simp only [Sum.elim_inr] at hm
        refine N_block_ret ?_
        refine N_meet_ret ?_
        refine N_then_ret ?_
        obtain rfl := Option.some.inj hm
        refine N_ret [.int .i64 (-1)] (RVs_cons (RV_tmp (by kernel_rfl)) RVs_nil) ?_
        exact ⟨rfl, M92.pick [] (by kernel_rfl)⟩
      refine G_cond_f (b := (decide (r89 < 0))) hc93 (by kernel_rfl) ?_
      refine G_skip ?_
      refine N_block ?_
      refine N_then ?_
      refine G_region ?_
      refine W_run 3 [(0, .slice p14 x12.length c15), (1, .int .i64 r89), (5, .int .i64 (w64 (s69.2 + 1)))] w90 (by kernel_rfl) ?_
      refine W_nil ?_
      obtain rfl := Option.some.inj hm
      exact N_loop fun a ha => ⟨_, rfl, M92.pick [] (by kernel_rfl), ha.sub (by kernel_rfl)⟩
    refine G_cond_f (b := (decide (s69.2 < (x12.length : Int)))) hc80 (by kernel_rfl) ?_
    refine G_exit ?_
    refine N_then_exit ?_
    refine N_then_exit ?_
    refine N_block_eq ?_
    obtain rfl := Option.some.inj hm
    obtain rfl := hout71 _ rfl
    exact N_meet fun a ha => ⟨_, rfl, M74.pick [] (by kernel_rfl), ha.sub (by kernel_rfl)⟩
  intro a94 w95 ⟨o79, hout_, M96, hS97⟩
  refine N_use hS97 ?_
  subst hout_
  have hm := hmo78; simp only [Sum.elim_inl] at hm
  refine N_then ?_
  refine G_seq ?_
  refine G_region ?_
  refine W_run 2 [(4, .int .i64 o79)] w95 (by kernel_rfl) ?_
  refine W_nil ?_
  refine N_then ?_
  refine G_ret ?_
  obtain rfl := Option.some.inj hm
  refine N_ret [.int .i64 o79] (RVs_cons (RV_tmp (by kernel_rfl)) RVs_nil) ?_
  exact ⟨rfl, M96.pick [] (by kernel_rfl)⟩
theorem c_l_toIntS (w : World) (x103 : List Int) (p105 : Option Addr) (c106 : Nat) (h107 : rdS Gx.encI w x103 p105 c106) {r : (List Int)} (hm : M.l_toIntS x103 = some r) :
    Calls Try.prog 15 #[.slice p105 x103.length c106] w fun e w' => ∃ (p109 : Option Addr) (c110 : Nat) (sg111 : Seg), e = .returned (.slice p109 r.length c110) ∧ ownS Gx.encI r p109 c110 sg111 ∧ Mem [] w w' [sg111] := by
  unfold M.l_toIntS at hm
  refine C_enter Try.func15 rfl (by kernel_rfl) ?_
  have M0 := Mem.refl [] w
  refine G_seq ?_
  refine G_region ?_
  refine W_run 1 [(0, .slice p105 x103.length c106)] w (by kernel_rfl) ?_
  refine W_nil ?_
  refine N_then ?_
  refine G_seq ?_
  refine G_region ?_
  refine W_run 2 [(0, .slice p105 x103.length c106), (6, .int .i64 (x103.length : Int))] w (by kernel_rfl) ?_
  obtain ⟨mk113, hmk113, hm⟩ := gx_bind hm
  refine W_make (E := Gx.encI) _ _ _ (x103.length : Int) 8 [.int .i64 0] (0 : Int) M0 (by kernel_rfl) rfl (by kernel_rfl) (by kernel_rfl) (by kernel_rfl) (by kernel_rfl) (by kernel_rfl) hmk113 ?_
  intro p114 c115 sg116 w117 ho118 M119
  refine W_run 1 [(0, .slice p105 x103.length c106), (3, .slice p114 mk113.length c115)] w117 (by kernel_rfl) ?_
  refine W_nil ?_
  refine N_then ?_
  refine G_seq ?_
  refine G_seq ?_
  refine G_region ?_
  refine W_run 1 [(0, .slice p105 x103.length c106), (3, .slice p114 mk113.length c115), (4, .int .i64 0)] w117 (by kernel_rfl) ?_
  refine W_nil ?_
  refine N_then ?_
  obtain ⟨out144, hw145, hmo146⟩ := gx_bind hm
  refine G_meet (fun a w' => ∃ (sg150 : Seg), ownS Gx.encI out144 p114 c115 sg150 ∧ Mem [] w w' [sg150] ∧ Sat Try.f15.ntmps [(3, .slice p114 out144.length c115)] a) ?_ ?_
  · refine G_block ?_
    refine G_while (σ := Int × List Int) (ρ := List Int) (fun s137 a w' => ∃ (sg147 : Seg), ownS Gx.encI s137.2 p114 c115 sg147 ∧ Mem [] w w' [sg147] ∧ Sat Try.f15.ntmps [(0, .slice p105 x103.length c106), (3, .slice p114 s137.2.length c115), (4, .int .i64 s137.1)] a) hw145 (fun a ha => ⟨sg116, ho118, M119.pick [0] (by kernel_rfl), ha.sub (by kernel_rfl)⟩) ?_
    clear hm
    intro s137 x138 hm hout139 a140 w141 ⟨sg147, ho148, M142, hS143⟩
    refine G_use hS143 ?_
    refine G_seq ?_
    refine G_seq ?_
    refine G_region ?_
    refine W_run 4 [(0, .slice p105 x103.length c106), (3, .slice p114 s137.2.length c115), (4, .int .i64 s137.1), (11, .bool (decide (s137.1 < (x103.length : Int))))] w141 (by kernel_rfl) ?_
    refine W_nil ?_
    refine N_then ?_
    rcases gx_bif hm with ⟨hc152, hm⟩ | ⟨hc152, hm⟩
    · refine G_cond_t (b := (decide (s137.1 < (x103.length : Int)))) hc152 (by kernel_rfl) ?_
      refine G_skip ?_
      refine N_then ?_
      refine G_seq ?_
      refine G_block ?_
      refine G_region ?_
      refine W_run 4 [(0, .slice p105 x103.length c106), (3, .slice p114 s137.2.length c115), (4, .int .i64 s137.1), (14, .slice p114 s137.2.length c115), (15, .int .i64 s137.1), (16, .slice p105 x103.length c106), (17, .int .i64 s137.1)] w141 (by kernel_rfl) ?_
      obtain ⟨y153, hy153, hm⟩ := gx_bind hm
      refine W_val (elemP p105 (s137.1.toNat * 1)) w141 (by kernel_rfl) (E_index (E := Gx.encI) _ _ _ x103.length c106 .i64 s137.1 1 (y := y153) rfl (by kernel_rfl) (by kernel_rfl) (by kernel_rfl) (h107.mem0 M142) rfl hy153) ?_
      refine W_val (.int .i64 y153) w141 (by kernel_rfl) (E_loadE (E := Gx.encI) _ _ false 1 s137.1 0 (s137.1.toNat * 1) y153 (.int .i64 y153) rfl (by kernel_rfl) (by kernel_rfl) (by kernel_rfl) (h107.mem0 M142) hy153 rfl) ?_
      obtain ⟨y154, hy154, hm⟩ := gx_bind hm
      refine W_val (elemP p114 (s137.1.toNat * 1)) w141 (by kernel_rfl) (E_index (E := Gx.encI) _ _ _ s137.2.length c115 .i64 s137.1 1 (y := y154) rfl (by kernel_rfl) (by kernel_rfl) (by kernel_rfl) (ho148.rd M142 0 (by kernel_rfl)) rfl hy154) ?_
      refine W_storeE (E := Gx.encI) _ _ _ false 1 s137.1.toNat 0 (s137.1.toNat * 1) y154 y153 (.int .i64 y153) 0 M142 ho148 (by kernel_rfl) (by kernel_rfl) rfl (by kernel_rfl) (by kernel_rfl) (by kernel_rfl) (by kernel_rfl) (by kernel_rfl) (by kernel_rfl) (by kernel_rfl) (gxIdx_spec hy154).2 rfl ?_
      intro w155 sg157 ho158 M156
      refine W_conv 3 (.slice p114 s137.2.length c115) (.slice p114 (s137.2.set s137.1.toNat y153).length c115) (by kernel_rfl) (by rw [@List.length_set _ s137.2 s137.1.toNat y153]) ?_
      refine W_conv 14 (.slice p114 s137.2.length c115) (.slice p114 (s137.2.set s137.1.toNat y153).length c115) (by kernel_rfl) (by rw [@List.length_set _ s137.2 s137.1.toNat y153]) ?_
      refine W_nil ?_
      refine N_block ?_
      refine N_then ?_
      refine G_region ?_
      refine W_run 3 [(0, .slice p105 x103.length c106), (3, .slice p114 (s137.2.set s137.1.toNat y153).length c115), (4, .int .i64 (w64 (s137.1 + 1)))] w155 (by kernel_rfl) ?_
      refine W_nil ?_
      obtain rfl := Option.some.inj hm
      exact N_loop fun a ha => ⟨_, rfl, sg157, ho158, M156.pick [0] (by kernel_rfl), ha.sub (by kernel_rfl)⟩
    refine G_cond_f (b := (decide (s137.1 < (x103.length : Int)))) hc152 (by kernel_rfl) ?_
    refine G_exit ?_
    refine N_then_exit ?_
    refine N_then_exit ?_
    refine N_block_eq ?_
    obtain rfl := Option.some.inj hm
    obtain rfl := hout139 _ rfl
    exact N_meet fun a ha => ⟨sg147, ho148, M142.pick [0] (by kernel_rfl), ha.sub (by kernel_rfl)⟩
  intro a159 w160 ⟨sg150, ho151, M161, hS162⟩
  refine N_use hS162 ?_
  have hm := hmo146
  refine N_then ?_
  refine G_seq ?_
  refine G_region ?_
  refine W_run 2 [(2, .slice p114 out144.length c115)] w160 (by kernel_rfl) ?_
  refine W_nil ?_
  refine N_then ?_
  refine G_ret ?_
  obtain rfl := Option.some.inj hm
  refine N_ret [.slice p114 out144.length c115] (RVs_cons (RV_tmp (by kernel_rfl)) RVs_nil) ?_
  exact ⟨p114, c115, sg150, rfl, ho151, M161.pick [0] (by kernel_rfl)⟩
theorem c_l_toBalloon (w : World) (x203 : Balloon) (p205 : Option Addr) (c206 : Nat) (h207 : rdS Gx.encI w x203.Gave p205 c206) {r : Balloon} (hm : M.l_toBalloon x203 = some r) :
    Calls Try.prog 48 #[.agg #[.int .i64 x203.Guest, .int .i64 x203.Goal, .slice p205 x203.Gave.length c206]] w fun e w' => ∃ (p209 : Option Addr) (c210 : Nat) (sg211 : Seg), e = .returned (.agg #[.int .i64 r.Guest, .int .i64 r.Goal, .slice p209 r.Gave.length c210]) ∧ ownS Gx.encI r.Gave p209 c210 sg211 ∧ Mem [] w w' [sg211] := by
  unfold M.l_toBalloon at hm
  refine C_enter Try.func48 rfl (by kernel_rfl) ?_
  have M0 := Mem.refl [] w
  refine G_seq ?_
  refine G_region ?_
  refine W_new (fun b => .pointer (some ⟨b, 0, none⟩)) (.cells ⟨[.int .i64 x203.Guest, .int .i64 x203.Goal, .slice p205 x203.Gave.length c206]⟩ 56 (0, 0)) M0 rfl (by kernel_rfl) (by kernel_rfl) ?_
  intro b213 w214 M215
  refine W_new (fun b => .pointer (some ⟨b, 0, none⟩)) (.cells ⟨[.int .i64 0, .int .i64 0, .slice none 0 0]⟩ 50 (0, 0)) M215 rfl (by kernel_rfl) (by kernel_rfl) ?_
  intro b218 w219 M220
  refine W_nil ?_
  refine N_then ?_
  refine G_seq ?_
  refine G_region ?_
  refine W_new (fun b => .pointer (some ⟨b, 0, none⟩)) (.cells ⟨[.int .i64 0, .int .i64 0, .slice none 0 0]⟩ 50 (0, 0)) M220 rfl (by kernel_rfl) (by kernel_rfl) ?_
  intro b223 w224 M225
  refine W_nil ?_
  refine N_then ?_
  refine G_seq ?_
  refine G_region ?_
  refine W_run 1 [(1, .pointer (some ⟨b213, 0, none⟩)), (2, .pointer (some ⟨b218, 0, none⟩)), (3, .pointer (some ⟨b223, 0, none⟩)), (4, .pointer (some ⟨b213, 0, none⟩))] w224 (by kernel_rfl) ?_
  refine W_val (.int .i64 x203.Guest) w224 (by kernel_rfl) (E_load (e := 56) (fr := (0, 0)) _ _ false 1 b213 0 [.int .i64 x203.Guest, .int .i64 x203.Goal, .slice p205 x203.Gave.length c206] (.int .i64 x203.Guest) rfl (by kernel_rfl) (by kernel_rfl) (by kernel_rfl) (M225.blk 0 (b := b213) (o := .cells ⟨[.int .i64 x203.Guest, .int .i64 x203.Goal, .slice p205 x203.Gave.length c206]⟩ 56 (0, 0)) (by kernel_rfl))) ?_
  refine W_run 1 [(1, .pointer (some ⟨b213, 0, none⟩)), (2, .pointer (some ⟨b218, 0, none⟩)), (3, .pointer (some ⟨b223, 0, none⟩)), (5, .int .i64 x203.Guest), (6, .pointer (some ⟨b223, 0, none⟩))] w224 (by kernel_rfl) ?_
  refine W_store _ _ _ false 1 b223 0 [.int .i64 0, .int .i64 0, .slice none 0 0] 50 (.int .i64 x203.Guest) 2 [.int .i64 x203.Guest, .int .i64 0, .slice none 0 0] M225 (by kernel_rfl) rfl (by kernel_rfl) (by kernel_rfl) (by kernel_rfl) (by kernel_rfl) (by kernel_rfl) (by kernel_rfl) (by kernel_rfl) (by kernel_rfl) ?_
  intro w226 M227
  refine W_nil ?_
  refine N_then ?_
  refine G_seq ?_
  refine G_region ?_
  refine W_run 1 [(1, .pointer (some ⟨b213, 0, none⟩)), (2, .pointer (some ⟨b218, 0, none⟩)), (3, .pointer (some ⟨b223, 0, none⟩)), (7, .pointer (some ⟨b213, 1, none⟩))] w226 (by kernel_rfl) ?_
  refine W_val (.int .i64 x203.Goal) w226 (by kernel_rfl) (E_load (e := 56) (fr := (0, 0)) _ _ false 1 b213 1 [.int .i64 x203.Guest, .int .i64 x203.Goal, .slice p205 x203.Gave.length c206] (.int .i64 x203.Goal) rfl (by kernel_rfl) (by kernel_rfl) (by kernel_rfl) (M227.blk 0 (b := b213) (o := .cells ⟨[.int .i64 x203.Guest, .int .i64 x203.Goal, .slice p205 x203.Gave.length c206]⟩ 56 (0, 0)) (by kernel_rfl))) ?_
  refine W_run 1 [(1, .pointer (some ⟨b213, 0, none⟩)), (2, .pointer (some ⟨b218, 0, none⟩)), (3, .pointer (some ⟨b223, 0, none⟩)), (8, .int .i64 x203.Goal), (9, .pointer (some ⟨b223, 1, none⟩))] w226 (by kernel_rfl) ?_
  refine W_store _ _ _ false 1 b223 1 [.int .i64 x203.Guest, .int .i64 0, .slice none 0 0] 50 (.int .i64 x203.Goal) 2 [.int .i64 x203.Guest, .int .i64 x203.Goal, .slice none 0 0] M227 (by kernel_rfl) rfl (by kernel_rfl) (by kernel_rfl) (by kernel_rfl) (by kernel_rfl) (by kernel_rfl) (by kernel_rfl) (by kernel_rfl) (by kernel_rfl) ?_
  intro w228 M229
  refine W_nil ?_
  refine N_then ?_
  refine G_seq ?_
  refine G_region ?_
  refine W_run 1 [(2, .pointer (some ⟨b218, 0, none⟩)), (3, .pointer (some ⟨b223, 0, none⟩)), (10, .pointer (some ⟨b213, 2, none⟩))] w228 (by kernel_rfl) ?_
  refine W_val (.slice p205 x203.Gave.length c206) w228 (by kernel_rfl) (E_load (e := 56) (fr := (0, 0)) _ _ false 1 b213 2 [.int .i64 x203.Guest, .int .i64 x203.Goal, .slice p205 x203.Gave.length c206] (.slice p205 x203.Gave.length c206) rfl (by kernel_rfl) (by kernel_rfl) (by kernel_rfl) (M229.blk 0 (b := b213) (o := .cells ⟨[.int .i64 x203.Guest, .int .i64 x203.Goal, .slice p205 x203.Gave.length c206]⟩ 56 (0, 0)) (by kernel_rfl))) ?_
  obtain ⟨r230, hr230, hm⟩ := gx_bind hm
  refine W_call 15 #[.slice p205 x203.Gave.length c206] (by kernel_rfl) (by kernel_rfl) ?_
  refine (c_l_toIntS w228 x203.Gave p205 c206 (h207.mem0 M229) hr230).mono ?_
  rintro e_ w236 ⟨p232, c233, sg234, rfl, ho235, K237⟩
  have M238 := M229.call K237
  refine ⟨_, rfl, ?_⟩
  refine W_run 1 [(2, .pointer (some ⟨b218, 0, none⟩)), (3, .pointer (some ⟨b223, 0, none⟩)), (12, .slice p232 r230.length c233), (13, .pointer (some ⟨b223, 2, none⟩))] w236 (by kernel_rfl) ?_
  refine W_store _ _ _ false 1 b223 2 [.int .i64 x203.Guest, .int .i64 x203.Goal, .slice none 0 0] 50 (.slice p232 r230.length c233) 2 [.int .i64 x203.Guest, .int .i64 x203.Goal, .slice p232 r230.length c233] M238 (by kernel_rfl) rfl (by kernel_rfl) (by kernel_rfl) (by kernel_rfl) (by kernel_rfl) (by kernel_rfl) (by kernel_rfl) (by kernel_rfl) (by kernel_rfl) ?_
  intro w239 M240
  refine W_nil ?_
  refine N_then ?_
  refine G_seq ?_
  refine G_region ?_
  refine W_val (.agg #[.int .i64 x203.Guest, .int .i64 x203.Goal, .slice p232 r230.length c233]) w239 (by kernel_rfl) (E_load (e := 50) (fr := (0, 0)) _ _ true 3 b223 0 [.int .i64 x203.Guest, .int .i64 x203.Goal, .slice p232 r230.length c233] (.agg #[.int .i64 x203.Guest, .int .i64 x203.Goal, .slice p232 r230.length c233]) rfl (by kernel_rfl) (by kernel_rfl) (by kernel_rfl) (M240.blk 2 (b := b223) (o := .cells ⟨[.int .i64 x203.Guest, .int .i64 x203.Goal, .slice p232 r230.length c233]⟩ 50 (0, 0)) (by kernel_rfl))) ?_
  refine W_store _ _ _ true 3 b218 0 [.int .i64 0, .int .i64 0, .slice none 0 0] 50 (.agg #[.int .i64 x203.Guest, .int .i64 x203.Goal, .slice p232 r230.length c233]) 1 [.int .i64 x203.Guest, .int .i64 x203.Goal, .slice p232 r230.length c233] M240 (by kernel_rfl) rfl (by kernel_rfl) (by kernel_rfl) (by kernel_rfl) (by kernel_rfl) (by kernel_rfl) (by kernel_rfl) (by kernel_rfl) (by kernel_rfl) ?_
  intro w241 M242
  refine W_nil ?_
  refine N_then ?_
  refine G_ret ?_
  obtain rfl := Option.some.inj hm
  refine N_ret [.agg #[.int .i64 x203.Guest, .int .i64 x203.Goal, .slice p232 r230.length c233]] (RVs_cons (RV_cell (g := true) (k := 3) (b := b218) (off := 0) (cs := [.int .i64 x203.Guest, .int .i64 x203.Goal, .slice p232 r230.length c233]) (e := 50) (fr := (0, 0)) (v := .agg #[.int .i64 x203.Guest, .int .i64 x203.Goal, .slice p232 r230.length c233]) (M242.blk 1 (b := b218) (o := .cells ⟨[.int .i64 x203.Guest, .int .i64 x203.Goal, .slice p232 r230.length c233]⟩ 50 (0, 0)) (by kernel_rfl)) (by kernel_rfl) (by kernel_rfl) (by kernel_rfl)) RVs_nil) ?_
  exact ⟨p232, c233, sg234, rfl, ho235, M242.pick [3] (by kernel_rfl)⟩
theorem c_l_toBalloonS (w : World) (x172 : List Balloon) (p174 : Option Addr) (c175 : Nat) (h176 : rdD deepBalloon w x172 p174 c175) {r : (List Balloon)} (hm : M.l_toBalloonS x172 = some r) :
    Calls Try.prog 16 #[.slice p174 x172.length c175] w fun e w' => ∃ (p178 : Option Addr) (c179 : Nat) (sg180 : Seg) (sg181 : Seg), e = .returned (.slice p178 r.length c179) ∧ ownD deepBalloon r p178 c179 sg180 sg181 ∧ Mem [] w w' [sg180, sg181] := by
  unfold M.l_toBalloonS at hm
  refine C_enter Try.func16 rfl (by kernel_rfl) ?_
  have M0 := Mem.refl [] w
  refine G_seq ?_
  refine G_region ?_
  refine W_run 1 [(0, .slice p174 x172.length c175)] w (by kernel_rfl) ?_
  refine W_nil ?_
  refine N_then ?_
  refine G_seq ?_
  refine G_region ?_
  refine W_run 2 [(0, .slice p174 x172.length c175), (6, .int .i64 (x172.length : Int))] w (by kernel_rfl) ?_
  obtain ⟨mk184, hmk184, hm⟩ := gx_bind hm
  refine W_makeD (D := deepBalloon) _ _ _ (x172.length : Int) 40 [.int .i64 0, .int .i64 0, .slice none 0 0] ((⟨0, 0, []⟩ : Balloon) : Balloon) (plOf []) M0 (by kernel_rfl) rfl (by kernel_rfl) (by kernel_rfl) (by kernel_rfl) (by kernel_rfl) (by kernel_rfl) (by intro i hi; simp [deepBalloon] at hi; first | (subst hi; exact ⟨rfl, rfl, rfl⟩) | (rcases hi with rfl | rfl | rfl <;> exact ⟨rfl, rfl, rfl⟩) | (rcases hi with rfl | rfl <;> exact ⟨rfl, rfl, rfl⟩)) hmk184 ?_
  intro p185 c186 sg187 w188 ho189 M190
  have M192 := M190.addNil
  obtain ⟨n191, n191e⟩ : ∃ s : Seg, s = [] := ⟨_, rfl⟩
  rw [← n191e] at ho189 M192
  refine W_run 1 [(0, .slice p174 x172.length c175), (3, .slice p185 mk184.length c186)] w188 (by kernel_rfl) ?_
  refine W_nil ?_
  refine N_then ?_
  refine G_seq ?_
  refine G_seq ?_
  refine G_region ?_
  refine W_run 1 [(0, .slice p174 x172.length c175), (3, .slice p185 mk184.length c186), (4, .int .i64 0)] w188 (by kernel_rfl) ?_
  refine W_nil ?_
  refine N_then ?_
  obtain ⟨out326, hw327, hmo328⟩ := gx_bind hm
  refine G_meet (fun a w' => ∃ (sg333 : Seg), ∃ (sg334 : Seg), ownD deepBalloon out326 p185 c186 sg333 sg334 ∧ Mem [] w w' [sg333, sg334] ∧ Sat Try.f16.ntmps [(3, .slice p185 out326.length c186)] a) ?_ ?_
  · refine G_block ?_
    refine G_while (σ := Int × List Balloon) (ρ := List Balloon) (fun s319 a w' => ∃ (sg329 : Seg), ∃ (sg330 : Seg), ownD deepBalloon s319.2 p185 c186 sg329 sg330 ∧ Mem [] w w' [sg329, sg330] ∧ Sat Try.f16.ntmps [(0, .slice p174 x172.length c175), (3, .slice p185 s319.2.length c186), (4, .int .i64 s319.1)] a) hw327 (fun a ha => ⟨sg187, n191, ho189, M192.pick [0, 1] (by kernel_rfl), ha.sub (by kernel_rfl)⟩) ?_
    clear hm
    intro s319 x320 hm hout321 a322 w323 ⟨sg329, sg330, ho331, M324, hS325⟩
    refine G_use hS325 ?_
    refine G_seq ?_
    refine G_seq ?_
    refine G_region ?_
    refine W_run 4 [(0, .slice p174 x172.length c175), (3, .slice p185 s319.2.length c186), (4, .int .i64 s319.1), (11, .bool (decide (s319.1 < (x172.length : Int))))] w323 (by kernel_rfl) ?_
    refine W_nil ?_
    refine N_then ?_
    rcases gx_bif hm with ⟨hc336, hm⟩ | ⟨hc336, hm⟩
    · refine G_cond_t (b := (decide (s319.1 < (x172.length : Int)))) hc336 (by kernel_rfl) ?_
      refine G_skip ?_
      refine N_then ?_
      refine G_seq ?_
      refine G_block ?_
      refine G_region ?_
      refine W_run 4 [(0, .slice p174 x172.length c175), (3, .slice p185 s319.2.length c186), (4, .int .i64 s319.1), (14, .slice p185 s319.2.length c186), (15, .int .i64 s319.1), (16, .slice p174 x172.length c175), (17, .int .i64 s319.1)] w323 (by kernel_rfl) ?_
      obtain ⟨y337, hy337, hm⟩ := gx_bind hm
      obtain ⟨zs338, hz339, hr340, hi341⟩ := id h176
      obtain ⟨g342, hg343⟩ := gxIdx_fst hz339 hy337
      refine W_val (elemP p174 (s319.1.toNat * 3)) w323 (by kernel_rfl) (E_index (E := deepBalloon.E) _ _ _ x172.length c175 .i64 s319.1 3 (y := (y337, g342)) rfl (by kernel_rfl) (by kernel_rfl) (by kernel_rfl) (hr340.mem0 M324) (len_fst hz339) hg343) ?_
      refine W_val (.agg #[.int .i64 y337.Guest, .int .i64 y337.Goal, .slice ((g342 0).1) y337.Gave.length ((g342 0).2)]) w323 (by kernel_rfl) (E_loadE (E := deepBalloon.E) _ _ true 3 s319.1 0 (s319.1.toNat * 3) (y337, g342) (.agg #[.int .i64 y337.Guest, .int .i64 y337.Goal, .slice ((g342 0).1) y337.Gave.length ((g342 0).2)]) rfl (by kernel_rfl) (by kernel_rfl) (by kernel_rfl) (hr340.mem0 M324) hg343 rfl) ?_
      obtain ⟨r345, hr345, hm⟩ := gx_bind hm
      refine W_call 48 #[.agg #[.int .i64 y337.Guest, .int .i64 y337.Goal, .slice ((g342 0).1) y337.Gave.length ((g342 0).2)]] (by kernel_rfl) (by kernel_rfl) ?_
      refine (c_l_toBalloon w323 y337 ((g342 0).1) ((g342 0).2) ((hi341.mem0 M324).at_ hg343 0 ⟨Int, Gx.encI, y337.Gave, (g342 0).1, (g342 0).2⟩ (by kernel_rfl)) hr345).mono ?_
      rintro e_ w351 ⟨p347, c348, sg349, rfl, ho350, K352⟩
      have M353 := M324.call K352
      refine ⟨_, rfl, ?_⟩
      obtain ⟨y354, hy354, hm⟩ := gx_bind hm
      obtain ⟨zs355, hz356, hr357, hi358⟩ := id ho331
      obtain ⟨g359, hg360⟩ := gxIdx_fst hz356 hy354
      refine W_val (elemP p185 (s319.1.toNat * 3)) w351 (by kernel_rfl) (E_index (E := deepBalloon.E) _ _ _ s319.2.length c186 .i64 s319.1 3 (y := (y354, g359)) rfl (by kernel_rfl) (by kernel_rfl) (by kernel_rfl) (hr357.rd M353 0 (by kernel_rfl)) (len_fst hz356) hg360) ?_
      obtain ⟨sa362, sb363, sc364, hs365, hb366, hp367⟩ := hi358.lens (gxIdx_spec hg360).2
      have M368 := M353.cut 1 (sa := sa362) (sb := sb363) (sc := sc364) hs365 (by kernel_rfl)
      refine W_storeE (E := deepBalloon.E) _ _ _ true 3 s319.1.toNat 0 (s319.1.toNat * 3) (y354, g359) (r345, (plOf [(p347, c348)])) (.agg #[.int .i64 r345.Guest, .int .i64 r345.Goal, .slice p347 r345.Gave.length c348]) 0 M368 hr357 (by kernel_rfl) (by kernel_rfl) rfl (by kernel_rfl) (by kernel_rfl) (by kernel_rfl) (by kernel_rfl) (by kernel_rfl) (by kernel_rfl) (by kernel_rfl) (gxIdx_spec hg360).2 rfl ?_
      intro w369 sg371 ho372 M370
      have M373 : Mem [] w w369 [sg371, sa362, sg349, sc364] := M370.pick [0, 1, 2, 4] (by kernel_rfl)
      have M374 : Mem [] w w369 [sg371, (sa362 ++ ((sg349 ++ []) ++ sc364))] := M373.regroup (by simp)
      have ho375 : ownD deepBalloon (s319.2.set s319.1.toNat r345) p185 c186 sg371 (sa362 ++ ((sg349 ++ []) ++ sc364)) := ⟨_, set_fst hz356 s319.1.toNat (r345, (plOf [(p347, c348)])), ho372, (hp367 (r345, (plOf [(p347, c348)])) _ (ownI_cons (i := ⟨Int, Gx.encI, _, _, _⟩) ho350 ownI_nil))⟩
      have hput376 := gxIdx_put r345 (gxIdx_down hz356 hg360)
      refine W_conv 3 (.slice p185 s319.2.length c186) (.slice p185 (s319.2.set s319.1.toNat r345).length c186) (by kernel_rfl) (by rw [@List.length_set _ s319.2 s319.1.toNat r345]) ?_
      refine W_conv 14 (.slice p185 s319.2.length c186) (.slice p185 (s319.2.set s319.1.toNat r345).length c186) (by kernel_rfl) (by rw [@List.length_set _ s319.2 s319.1.toNat r345]) ?_
      refine W_nil ?_
      refine N_block ?_
      refine N_then ?_
      refine G_region ?_
      refine W_run 3 [(0, .slice p174 x172.length c175), (3, .slice p185 (s319.2.set s319.1.toNat r345).length c186), (4, .int .i64 (w64 (s319.1 + 1)))] w369 (by kernel_rfl) ?_
      refine W_nil ?_
      obtain rfl := Option.some.inj hm
      exact N_loop fun a ha => ⟨_, rfl, sg371, (sa362 ++ ((sg349 ++ []) ++ sc364)), ho375, M374.pick [0, 1] (by kernel_rfl), ha.sub (by kernel_rfl)⟩
    refine G_cond_f (b := (decide (s319.1 < (x172.length : Int)))) hc336 (by kernel_rfl) ?_
    refine G_exit ?_
    refine N_then_exit ?_
    refine N_then_exit ?_
    refine N_block_eq ?_
    obtain rfl := Option.some.inj hm
    obtain rfl := hout321 _ rfl
    exact N_meet fun a ha => ⟨sg329, sg330, ho331, M324.pick [0, 1] (by kernel_rfl), ha.sub (by kernel_rfl)⟩
  intro a377 w378 ⟨sg333, sg334, ho335, M379, hS380⟩
  refine N_use hS380 ?_
  have hm := hmo328
  refine N_then ?_
  refine G_seq ?_
  refine G_region ?_
  refine W_run 2 [(2, .slice p185 out326.length c186)] w378 (by kernel_rfl) ?_
  refine W_nil ?_
  refine N_then ?_
  refine G_ret ?_
  obtain rfl := Option.some.inj hm
  refine N_ret [.slice p185 out326.length c186] (RVs_cons (RV_tmp (by kernel_rfl)) RVs_nil) ?_
  exact ⟨p185, c186, sg333, sg334, rfl, ho335, M379.pick [0, 1] (by kernel_rfl)⟩
theorem c_s_l1In (w : World) (x418 : Int) (x419 : Int) (x420 : Int) {r : Bool} (hm : M.s_l1In x418 x419 x420 = some r) :
    Calls Try.prog 57 #[.int .i64 x418, .int .i64 x419, .int .i64 x420] w fun e w' => e = .returned (.bool r) ∧ Mem [] w w' [] := by
  unfold M.s_l1In at hm
  refine C_enter Try.func57 rfl (by kernel_rfl) ?_
  have M0 := Mem.refl [] w
  refine G_seq ?_
  refine G_region ?_
  refine W_run 1 [(0, .int .i64 x418), (1, .int .i64 x419), (2, .int .i64 x420)] w (by kernel_rfl) ?_
  refine W_nil ?_
  refine N_then ?_
  refine G_seq ?_
  obtain ⟨o422, ho423, hm424⟩ := gx_bind hm
  refine G_meet (fun a w' => Mem [] w w' [] ∧ Sat Try.f57.ntmps [(6, .bool o422)] a) ?_ ?_
  · have hm := ho423
    refine G_region ?_
    refine W_run 4 [(0, .int .i64 x418), (2, .int .i64 x420), (10, .bool (decide (x418 ≥ x419)))] w (by kernel_rfl) ?_
    rcases gx_bif hm with ⟨hc425, hm⟩ | ⟨hc425, hm⟩
    · refine W_known 10 true (by kernel_rfl) hc425 ?_
      refine W_run 5 [(6, .bool (decide (x418 ≤ x420)))] w (by kernel_rfl) ?_
      refine W_nil ?_
      obtain rfl := Option.some.inj hm
      exact N_meet fun a ha => ⟨M0.pick [] (by kernel_rfl), ha.sub (by kernel_rfl)⟩
    refine W_known 10 false (by kernel_rfl) hc425 ?_
    refine W_run 5 [(6, .bool false)] w (by kernel_rfl) ?_
    refine W_nil ?_
    obtain rfl := Option.some.inj hm
    exact N_meet fun a ha => ⟨M0.pick [] (by kernel_rfl), ha.sub (by kernel_rfl)⟩
  intro a428 w426 ⟨M427, hS429⟩
  refine N_use hS429 ?_
  have hm := hm424
  refine N_then ?_
  refine G_ret ?_
  obtain rfl := Option.some.inj hm
  refine N_ret [.bool o422] (RVs_cons (RV_tmp (by kernel_rfl)) RVs_nil) ?_
  exact ⟨rfl, M427.pick [] (by kernel_rfl)⟩
theorem c_s_l2Good (w : World) (x411 : List Int) (p413 : Option Addr) (c414 : Nat) (h415 : rdS Gx.encI w x411 p413 c414) {r : Bool} (hm : M.s_l2Good x411 = some r) :
    Calls Try.prog 79 #[.slice p413 x411.length c414] w fun e w' => e = .returned (.bool r) ∧ Mem [] w w' [] := by
  unfold M.s_l2Good at hm
  refine C_enter Try.func79 rfl (by kernel_rfl) ?_
  have M0 := Mem.refl [] w
  refine G_seq ?_
  refine G_region ?_
  refine W_run 1 [(0, .slice p413 x411.length c414)] w (by kernel_rfl) ?_
  refine W_nil ?_
  refine N_then ?_
  refine G_seq ?_
  refine G_seq ?_
  refine G_region ?_
  refine W_run 1 [(0, .slice p413 x411.length c414), (3, .int .i64 0)] w (by kernel_rfl) ?_
  refine W_nil ?_
  refine N_then ?_
  obtain ⟨out449, hw450, hmo451⟩ := gx_bind hm
  refine G_meet (fun a w' => ∃ (o452 : Unit), out449 = .inl o452 ∧ Mem [] w w' [] ∧ Sat Try.f79.ntmps [(0, .slice p413 x411.length c414)] a) ?_ ?_
  · refine G_block ?_
    refine G_while (σ := Int) (ρ := (Unit) ⊕ (Bool)) (fun s442 a w' => Mem [] w w' [] ∧ Sat Try.f79.ntmps [(0, .slice p413 x411.length c414), (3, .int .i64 s442)] a) hw450 (fun a ha => ⟨M0.pick [] (by kernel_rfl), ha.sub (by kernel_rfl)⟩) ?_
    clear hm
    intro s442 x443 hm hout444 a445 w446 ⟨M447, hS448⟩
    refine G_use hS448 ?_
    refine G_seq ?_
    refine G_seq ?_
    refine G_region ?_
    refine W_run 4 [(0, .slice p413 x411.length c414), (3, .int .i64 s442), (7, .bool (decide (s442 < (x411.length : Int))))] w446 (by kernel_rfl) ?_
    refine W_nil ?_
    refine N_then ?_
    rcases gx_bif hm with ⟨hc453, hm⟩ | ⟨hc453, hm⟩
    · refine G_cond_t (b := (decide (s442 < (x411.length : Int)))) hc453 (by kernel_rfl) ?_
      refine G_skip ?_
      refine N_then ?_
      refine G_seq ?_
      refine G_block ?_
      refine G_seq ?_
      refine G_region ?_
      refine W_run 2 [(0, .slice p413 x411.length c414), (3, .int .i64 s442), (10, .slice p413 x411.length c414), (11, .int .i64 s442)] w446 (by kernel_rfl) ?_
      obtain ⟨y454, hy454, hm⟩ := gx_bind hm
      refine W_val (elemP p413 (s442.toNat * 1)) w446 (by kernel_rfl) (E_index (E := Gx.encI) _ _ _ x411.length c414 .i64 s442 1 (y := y454) rfl (by kernel_rfl) (by kernel_rfl) (by kernel_rfl) (h415.mem0 M447) rfl hy454) ?_
      refine W_val (.int .i64 y454) w446 (by kernel_rfl) (E_loadE (E := Gx.encI) _ _ false 1 s442 0 (s442.toNat * 1) y454 (.int .i64 y454) rfl (by kernel_rfl) (by kernel_rfl) (by kernel_rfl) (h415.mem0 M447) hy454 rfl) ?_
      obtain ⟨r455, hr455, hm⟩ := gx_bind hm
      refine W_call 57 #[.int .i64 y454, .int .i64 0, .int .i64 4] (by kernel_rfl) (by kernel_rfl) ?_
      refine (c_s_l1In w446 y454 0 4 hr455).mono ?_
      rintro e_ w456 ⟨rfl, K457⟩
      have M458 := M447.call0 K457
      refine ⟨_, rfl, ?_⟩
      refine W_run 1 [(0, .slice p413 x411.length c414), (3, .int .i64 s442), (15, .bool (!r455))] w456 (by kernel_rfl) ?_
      refine W_nil ?_
      refine N_then ?_
      rcases gx_bif hm with ⟨hc459, hm⟩ | ⟨hc459, hm⟩
      · refine G_cond_t (b := (!r455)) hc459 (by kernel_rfl) ?_
        refine G_seq ?_
        refine G_region ?_
        refine W_run 1 [(2, .bool false)] w456 (by kernel_rfl) ?_
        refine W_nil ?_
        refine N_then ?_
        refine G_ret ?_
        refine N_block_ret ?_
        refine N_then_ret ?_
        refine N_then_ret ?_
        obtain rfl := Option.some.inj hm
        obtain rfl := hout444 _ rfl
        have hm := hmo451; simp only [Sum.elim_inr] at hm
        refine N_block_ret ?_
        refine N_meet_ret ?_
        refine N_then_ret ?_
        obtain rfl := Option.some.inj hm
        refine N_ret [.bool false] (RVs_cons (RV_tmp (by kernel_rfl)) RVs_nil) ?_
        exact ⟨rfl, M458.pick [] (by kernel_rfl)⟩
      refine G_cond_f (b := (!r455)) hc459 (by kernel_rfl) ?_
      refine G_skip ?_
      refine N_block ?_
      refine N_then ?_
      refine G_region ?_
      refine W_run 3 [(0, .slice p413 x411.length c414), (3, .int .i64 (w64 (s442 + 1)))] w456 (by kernel_rfl) ?_
      refine W_nil ?_
      obtain rfl := Option.some.inj hm
      exact N_loop fun a ha => ⟨_, rfl, M458.pick [] (by kernel_rfl), ha.sub (by kernel_rfl)⟩
    refine G_cond_f (b := (decide (s442 < (x411.length : Int)))) hc453 (by kernel_rfl) ?_
    refine G_exit ?_
    refine N_then_exit ?_
    refine N_then_exit ?_
    refine N_block_eq ?_
    obtain rfl := Option.some.inj hm
    obtain rfl := hout444 _ rfl
    exact N_meet fun a ha => ⟨_, rfl, M447.pick [] (by kernel_rfl), ha.sub (by kernel_rfl)⟩
  intro a460 w461 ⟨o452, hout_, M462, hS463⟩
  refine N_use hS463 ?_
  subst hout_
  have hm := hmo451; simp only [Sum.elim_inl] at hm
  refine N_then ?_
  refine G_seq ?_
  refine G_region ?_
  refine W_run 2 [(17, .int .i64 (x411.length : Int))] w461 (by kernel_rfl) ?_
  obtain ⟨r464, hr464, hm⟩ := gx_bind hm
  refine W_call 57 #[.int .i64 (x411.length : Int), .int .i64 1, .int .i64 16] (by kernel_rfl) (by kernel_rfl) ?_
  refine (c_s_l1In w461 (x411.length : Int) 1 16 hr464).mono ?_
  rintro e_ w465 ⟨rfl, K466⟩
  have M467 := M462.call0 K466
  refine ⟨_, rfl, ?_⟩
  refine W_run 1 [(2, .bool r464)] w465 (by kernel_rfl) ?_
  refine W_nil ?_
  refine N_then ?_
  refine G_ret ?_
  obtain rfl := Option.some.inj hm
  refine N_ret [.bool r464] (RVs_cons (RV_tmp (by kernel_rfl)) RVs_nil) ?_
  exact ⟨rfl, M467.pick [] (by kernel_rfl)⟩
theorem c_s_l1Rising (w : World) (x518 : List Int) (p520 : Option Addr) (c521 : Nat) (h522 : rdS Gx.encI w x518 p520 c521) (x523 : Int) (x524 : Int) {r : Bool} (hm : M.s_l1Rising x518 x523 x524 = some r) :
    Calls Try.prog 80 #[.slice p520 x518.length c521, .int .i64 x523, .int .i64 x524] w fun e w' => e = .returned (.bool r) ∧ Mem [] w w' [] := by
  unfold M.s_l1Rising at hm
  refine C_enter Try.func80 rfl (by kernel_rfl) ?_
  have M0 := Mem.refl [] w
  refine G_seq ?_
  refine G_region ?_
  refine W_run 1 [(0, .slice p520 x518.length c521), (1, .int .i64 x523), (2, .int .i64 x524)] w (by kernel_rfl) ?_
  refine W_nil ?_
  refine N_then ?_
  refine G_seq ?_
  refine G_seq ?_
  refine G_region ?_
  refine W_run 1 [(0, .slice p520 x518.length c521), (1, .int .i64 x523), (2, .int .i64 x524), (7, .int .i64 0)] w (by kernel_rfl) ?_
  refine W_nil ?_
  refine N_then ?_
  obtain ⟨out610, hw611, hmo612⟩ := gx_bind hm
  refine G_meet (fun a w' => ∃ (o613 : Unit), out610 = .inl o613 ∧ Mem [] w w' [] ∧ Sat Try.f80.ntmps [] a) ?_ ?_
  · refine G_block ?_
    refine G_while (σ := Int) (ρ := (Unit) ⊕ (Bool)) (fun s603 a w' => Mem [] w w' [] ∧ Sat Try.f80.ntmps [(0, .slice p520 x518.length c521), (1, .int .i64 x523), (2, .int .i64 x524), (7, .int .i64 s603)] a) hw611 (fun a ha => ⟨M0.pick [] (by kernel_rfl), ha.sub (by kernel_rfl)⟩) ?_
    clear hm
    intro s603 x604 hm hout605 a606 w607 ⟨M608, hS609⟩
    refine G_use hS609 ?_
    refine G_seq ?_
    refine G_seq ?_
    refine G_region ?_
    refine W_run 4 [(0, .slice p520 x518.length c521), (1, .int .i64 x523), (2, .int .i64 x524), (7, .int .i64 s603), (11, .bool (decide (s603 < (x518.length : Int))))] w607 (by kernel_rfl) ?_
    refine W_nil ?_
    refine N_then ?_
    rcases gx_bif hm with ⟨hc614, hm⟩ | ⟨hc614, hm⟩
    · refine G_cond_t (b := (decide (s603 < (x518.length : Int)))) hc614 (by kernel_rfl) ?_
      refine G_skip ?_
      refine N_then ?_
      refine G_seq ?_
      refine G_block ?_
      refine G_seq ?_
      obtain ⟨o630, ho631, hm632⟩ := gx_bind hm
      refine G_meet (fun a w' => Mem [] w w' [] ∧ Sat Try.f80.ntmps [(0, .slice p520 x518.length c521), (1, .int .i64 x523), (2, .int .i64 x524), (7, .int .i64 s603), (37, .bool o630)] a) ?_ ?_
      · have hm := ho631
        refine G_quiet (by kernel_rfl) (by kernel_rfl) M608 ?_
        refine Z_runs [.slice p520 x518.length c521, .int .i64 s603] [(0, .slice p520 x518.length c521), (1, .int .i64 x523), (2, .int .i64 x524), (7, .int .i64 s603), (14, .slice p520 x518.length c521), (15, .int .i64 s603)] (fun w_ => by kernel_rfl) (by kernel_rfl) ?_
        obtain ⟨y633, hy633, hm⟩ := gx_bind hm
        refine Z_val (elemP p520 (s603.toNat * 1)) (by kernel_rfl) (fun w_ M_ => (E_index (E := Gx.encI) _ _ _ x518.length c521 .i64 s603 1 (y := y633) rfl (by kernel_rfl) (by kernel_rfl) (by kernel_rfl) (h522.mem0 M_) rfl hy633)) ?_
        refine Z_val (.int .i64 y633) (by kernel_rfl) (fun w_ M_ => (E_loadE (E := Gx.encI) _ _ false 1 s603 0 (s603.toNat * 1) y633 (.int .i64 y633) rfl (by kernel_rfl) (by kernel_rfl) (by kernel_rfl) (h522.mem0 M_) hy633 rfl)) ?_
        refine Z_runs [.int .i64 x523, .int .i64 x524] [(0, .slice p520 x518.length c521), (1, .int .i64 x523), (2, .int .i64 x524), (7, .int .i64 s603), (17, .int .i64 y633), (18, .int .i64 x523), (19, .int .i64 x524)] (fun w_ => by kernel_rfl) (by kernel_rfl) ?_
        obtain ⟨r634, hr634, hm⟩ := gx_bind hm
        refine Z_call 57 #[.int .i64 y633, .int .i64 x523, .int .i64 x524] (.bool r634) (by kernel_rfl) (fun w_ => by kernel_rfl) (fun w_ M_ => (c_s_l1In w_ y633 x523 x524 hr634).mono fun e w2_ h_ => ⟨h_.1, M_.call0 h_.2⟩) ?_
        refine Z_runs [.bool (!r634), .bool (!r634)] [(0, .slice p520 x518.length c521), (1, .int .i64 x523), (2, .int .i64 x524), (7, .int .i64 s603), (22, .bool (!r634))] (fun w_ => by kernel_rfl) (by kernel_rfl) ?_
        rcases gx_bif hm with ⟨hc638, hm⟩ | ⟨hc638, hm⟩
        · refine Z_known 22 true (by kernel_rfl) hc638 ?_
          refine Z_runs [undef, undef, undef, undef, undef, undef, undef, undef, undef, undef, undef, undef, undef, undef, .bool true] [(0, .slice p520 x518.length c521), (1, .int .i64 x523), (2, .int .i64 x524), (7, .int .i64 s603), (37, .bool true)] (fun w_ => by kernel_rfl) (by kernel_rfl) ?_
          refine Z_end fun w639 M640 => ?_
          obtain rfl := Option.some.inj hm
          exact N_meet fun a ha => ⟨M640.pick [] (by kernel_rfl), ha.sub (by kernel_rfl)⟩
        refine Z_known 22 false (by kernel_rfl) hc638 ?_
        refine Z_runs [.int .i64 s603, .bool (decide (s603 > 0)), .bool (decide (s603 > 0))] [(0, .slice p520 x518.length c521), (1, .int .i64 x523), (2, .int .i64 x524), (7, .int .i64 s603), (22, .bool false), (25, .bool (decide (s603 > 0)))] (fun w_ => by kernel_rfl) (by kernel_rfl) ?_
        rcases gx_bif hm with ⟨hc641, hm⟩ | ⟨hc641, hm⟩
        · refine Z_known 25 true (by kernel_rfl) hc641 ?_
          refine Z_runs [.slice p520 x518.length c521, .int .i64 s603, .int .i64 (w64 (s603 - 1))] [(0, .slice p520 x518.length c521), (1, .int .i64 x523), (2, .int .i64 x524), (7, .int .i64 s603), (22, .bool false), (25, .bool true), (26, .slice p520 x518.length c521), (28, .int .i64 (w64 (s603 - 1)))] (fun w_ => by kernel_rfl) (by kernel_rfl) ?_
          obtain ⟨y642, hy642, hm⟩ := gx_bind hm
          refine Z_val (elemP p520 ((w64 (s603 - 1)).toNat * 1)) (by kernel_rfl) (fun w_ M_ => (E_index (E := Gx.encI) _ _ _ x518.length c521 .i64 (w64 (s603 - 1)) 1 (y := y642) rfl (by kernel_rfl) (by kernel_rfl) (by kernel_rfl) (h522.mem0 M_) rfl hy642)) ?_
          refine Z_val (.int .i64 y642) (by kernel_rfl) (fun w_ M_ => (E_loadE (E := Gx.encI) _ _ false 1 (w64 (s603 - 1)) 0 ((w64 (s603 - 1)).toNat * 1) y642 (.int .i64 y642) rfl (by kernel_rfl) (by kernel_rfl) (by kernel_rfl) (h522.mem0 M_) hy642 rfl)) ?_
          refine Z_runs [.slice p520 x518.length c521, .int .i64 s603] [(0, .slice p520 x518.length c521), (1, .int .i64 x523), (2, .int .i64 x524), (7, .int .i64 s603), (22, .bool false), (25, .bool true), (30, .int .i64 y642), (31, .slice p520 x518.length c521), (32, .int .i64 s603)] (fun w_ => by kernel_rfl) (by kernel_rfl) ?_
          obtain ⟨y643, hy643, hm⟩ := gx_bind hm
          refine Z_val (elemP p520 (s603.toNat * 1)) (by kernel_rfl) (fun w_ M_ => (E_index (E := Gx.encI) _ _ _ x518.length c521 .i64 s603 1 (y := y643) rfl (by kernel_rfl) (by kernel_rfl) (by kernel_rfl) (h522.mem0 M_) rfl hy643)) ?_
          refine Z_val (.int .i64 y643) (by kernel_rfl) (fun w_ M_ => (E_loadE (E := Gx.encI) _ _ false 1 s603 0 (s603.toNat * 1) y643 (.int .i64 y643) rfl (by kernel_rfl) (by kernel_rfl) (by kernel_rfl) (h522.mem0 M_) hy643 rfl)) ?_
          refine Z_runs [.bool (decide (y642 ≥ y643)), .bool (decide (y642 ≥ y643)), .bool (decide (y642 ≥ y643))] [(0, .slice p520 x518.length c521), (1, .int .i64 x523), (2, .int .i64 x524), (7, .int .i64 s603), (37, .bool (decide (y642 ≥ y643)))] (fun w_ => by kernel_rfl) (by kernel_rfl) ?_
          refine Z_end fun w644 M645 => ?_
          obtain rfl := Option.some.inj hm
          exact N_meet fun a ha => ⟨M645.pick [] (by kernel_rfl), ha.sub (by kernel_rfl)⟩
        refine Z_known 25 false (by kernel_rfl) hc641 ?_
        refine Z_runs [undef, undef, undef, undef, undef, undef, undef, undef, undef, undef, .bool false, .bool false] [(0, .slice p520 x518.length c521), (1, .int .i64 x523), (2, .int .i64 x524), (7, .int .i64 s603), (37, .bool false)] (fun w_ => by kernel_rfl) (by kernel_rfl) ?_
        refine Z_end fun w646 M647 => ?_
        obtain rfl := Option.some.inj hm
        exact N_meet fun a ha => ⟨M647.pick [] (by kernel_rfl), ha.sub (by kernel_rfl)⟩
      intro a650 w648 ⟨M649, hS651⟩
      refine N_use hS651 ?_
      have hm := hm632
      refine N_then ?_
      rcases gx_bif hm with ⟨hc652, hm⟩ | ⟨hc652, hm⟩
      · refine G_cond_t (b := o630) hc652 (by kernel_rfl) ?_
        refine G_seq ?_
        refine G_region ?_
        refine W_run 1 [(6, .bool false)] w648 (by kernel_rfl) ?_
        refine W_nil ?_
        refine N_then ?_
        refine G_ret ?_
        refine N_block_ret ?_
        refine N_then_ret ?_
        refine N_then_ret ?_
        obtain rfl := Option.some.inj hm
        obtain rfl := hout605 _ rfl
        have hm := hmo612; simp only [Sum.elim_inr] at hm
        refine N_block_ret ?_
        refine N_meet_ret ?_
        refine N_then_ret ?_
        obtain rfl := Option.some.inj hm
        refine N_ret [.bool false] (RVs_cons (RV_tmp (by kernel_rfl)) RVs_nil) ?_
        exact ⟨rfl, M649.pick [] (by kernel_rfl)⟩
      refine G_cond_f (b := o630) hc652 (by kernel_rfl) ?_
      refine G_skip ?_
      refine N_block ?_
      refine N_then ?_
      refine G_region ?_
      refine W_run 3 [(0, .slice p520 x518.length c521), (1, .int .i64 x523), (2, .int .i64 x524), (7, .int .i64 (w64 (s603 + 1)))] w648 (by kernel_rfl) ?_
      refine W_nil ?_
      obtain rfl := Option.some.inj hm
      exact N_loop fun a ha => ⟨_, rfl, M649.pick [] (by kernel_rfl), ha.sub (by kernel_rfl)⟩
    refine G_cond_f (b := (decide (s603 < (x518.length : Int)))) hc614 (by kernel_rfl) ?_
    refine G_exit ?_
    refine N_then_exit ?_
    refine N_then_exit ?_
    refine N_block_eq ?_
    obtain rfl := Option.some.inj hm
    obtain rfl := hout605 _ rfl
    exact N_meet fun a ha => ⟨_, rfl, M608.pick [] (by kernel_rfl), ha.sub (by kernel_rfl)⟩
  intro a653 w654 ⟨o613, hout_, M655, hS656⟩
  refine N_use hS656 ?_
  subst hout_
  have hm := hmo612; simp only [Sum.elim_inl] at hm
  refine N_then ?_
  refine G_seq ?_
  refine G_region ?_
  refine W_run 1 [(6, .bool true)] w654 (by kernel_rfl) ?_
  refine W_nil ?_
  refine N_then ?_
  refine G_ret ?_
  obtain rfl := Option.some.inj hm
  refine N_ret [.bool true] (RVs_cons (RV_tmp (by kernel_rfl)) RVs_nil) ?_
  exact ⟨rfl, M655.pick [] (by kernel_rfl)⟩
theorem c_s_l1Has (w : World) (x716 : List Int) (p718 : Option Addr) (c719 : Nat) (h720 : rdS Gx.encI w x716 p718 c719) (x721 : Int) {r : Bool} (hm : M.s_l1Has x716 x721 = some r) :
    Calls Try.prog 81 #[.slice p718 x716.length c719, .int .i64 x721] w fun e w' => e = .returned (.bool r) ∧ Mem [] w w' [] := by
  unfold M.s_l1Has at hm
  refine C_enter Try.func81 rfl (by kernel_rfl) ?_
  have M0 := Mem.refl [] w
  refine G_seq ?_
  refine G_region ?_
  refine W_run 1 [(0, .slice p718 x716.length c719), (1, .int .i64 x721)] w (by kernel_rfl) ?_
  refine W_nil ?_
  refine N_then ?_
  refine G_seq ?_
  refine G_seq ?_
  refine G_region ?_
  refine W_run 1 [(0, .slice p718 x716.length c719), (1, .int .i64 x721), (5, .int .i64 0)] w (by kernel_rfl) ?_
  refine W_nil ?_
  refine N_then ?_
  obtain ⟨out735, hw736, hmo737⟩ := gx_bind hm
  refine G_meet (fun a w' => ∃ (o738 : Unit), out735 = .inl o738 ∧ Mem [] w w' [] ∧ Sat Try.f81.ntmps [] a) ?_ ?_
  · refine G_block ?_
    refine G_while (σ := Int) (ρ := (Unit) ⊕ (Bool)) (fun s728 a w' => Mem [] w w' [] ∧ Sat Try.f81.ntmps [(0, .slice p718 x716.length c719), (1, .int .i64 x721), (5, .int .i64 s728)] a) hw736 (fun a ha => ⟨M0.pick [] (by kernel_rfl), ha.sub (by kernel_rfl)⟩) ?_
    clear hm
    intro s728 x729 hm hout730 a731 w732 ⟨M733, hS734⟩
    refine G_use hS734 ?_
    refine G_seq ?_
    refine G_seq ?_
    refine G_region ?_
    refine W_run 4 [(0, .slice p718 x716.length c719), (1, .int .i64 x721), (5, .int .i64 s728), (9, .bool (decide (s728 < (x716.length : Int))))] w732 (by kernel_rfl) ?_
    refine W_nil ?_
    refine N_then ?_
    rcases gx_bif hm with ⟨hc739, hm⟩ | ⟨hc739, hm⟩
    · refine G_cond_t (b := (decide (s728 < (x716.length : Int)))) hc739 (by kernel_rfl) ?_
      refine G_skip ?_
      refine N_then ?_
      refine G_seq ?_
      refine G_block ?_
      refine G_seq ?_
      refine G_region ?_
      refine W_run 2 [(0, .slice p718 x716.length c719), (1, .int .i64 x721), (5, .int .i64 s728), (12, .slice p718 x716.length c719), (13, .int .i64 s728)] w732 (by kernel_rfl) ?_
      obtain ⟨y740, hy740, hm⟩ := gx_bind hm
      refine W_val (elemP p718 (s728.toNat * 1)) w732 (by kernel_rfl) (E_index (E := Gx.encI) _ _ _ x716.length c719 .i64 s728 1 (y := y740) rfl (by kernel_rfl) (by kernel_rfl) (by kernel_rfl) (h720.mem0 M733) rfl hy740) ?_
      refine W_val (.int .i64 y740) w732 (by kernel_rfl) (E_loadE (E := Gx.encI) _ _ false 1 s728 0 (s728.toNat * 1) y740 (.int .i64 y740) rfl (by kernel_rfl) (by kernel_rfl) (by kernel_rfl) (h720.mem0 M733) hy740 rfl) ?_
      refine W_run 2 [(0, .slice p718 x716.length c719), (1, .int .i64 x721), (5, .int .i64 s728), (17, .bool (y740 == x721))] w732 (by kernel_rfl) ?_
      refine W_nil ?_
      refine N_then ?_
      rcases gx_bif hm with ⟨hc741, hm⟩ | ⟨hc741, hm⟩
      · refine G_cond_t (b := (y740 == x721)) hc741 (by kernel_rfl) ?_
        refine G_seq ?_
        refine G_region ?_
        refine W_run 1 [(4, .bool true)] w732 (by kernel_rfl) ?_
        refine W_nil ?_
        refine N_then ?_
        refine G_ret ?_
        refine N_block_ret ?_
        refine N_then_ret ?_
        refine N_then_ret ?_
        obtain rfl := Option.some.inj hm
        obtain rfl := hout730 _ rfl
        have hm := hmo737; simp only [Sum.elim_inr] at hm
        refine N_block_ret ?_
        refine N_meet_ret ?_
        refine N_then_ret ?_
        obtain rfl := Option.some.inj hm
        refine N_ret [.bool true] (RVs_cons (RV_tmp (by kernel_rfl)) RVs_nil) ?_
        exact ⟨rfl, M733.pick [] (by kernel_rfl)⟩
      refine G_cond_f (b := (y740 == x721)) hc741 (by kernel_rfl) ?_
      refine G_skip ?_
      refine N_block ?_
      refine N_then ?_
      refine G_region ?_
      refine W_run 3 [(0, .slice p718 x716.length c719), (1, .int .i64 x721), (5, .int .i64 (w64 (s728 + 1)))] w732 (by kernel_rfl) ?_
      refine W_nil ?_
      obtain rfl := Option.some.inj hm
      exact N_loop fun a ha => ⟨_, rfl, M733.pick [] (by kernel_rfl), ha.sub (by kernel_rfl)⟩
    refine G_cond_f (b := (decide (s728 < (x716.length : Int)))) hc739 (by kernel_rfl) ?_
    refine G_exit ?_
    refine N_then_exit ?_
    refine N_then_exit ?_
    refine N_block_eq ?_
    obtain rfl := Option.some.inj hm
    obtain rfl := hout730 _ rfl
    exact N_meet fun a ha => ⟨_, rfl, M733.pick [] (by kernel_rfl), ha.sub (by kernel_rfl)⟩
  intro a742 w743 ⟨o738, hout_, M744, hS745⟩
  refine N_use hS745 ?_
  subst hout_
  have hm := hmo737; simp only [Sum.elim_inl] at hm
  refine N_then ?_
  refine G_seq ?_
  refine G_region ?_
  refine W_run 1 [(4, .bool false)] w743 (by kernel_rfl) ?_
  refine W_nil ?_
  refine N_then ?_
  refine G_ret ?_
  obtain rfl := Option.some.inj hm
  refine N_ret [.bool false] (RVs_cons (RV_tmp (by kernel_rfl)) RVs_nil) ?_
  exact ⟨rfl, M744.pick [] (by kernel_rfl)⟩
theorem c_s_l18Good (w : World) (x401 : List Int) (p403 : Option Addr) (c404 : Nat) (h405 : rdS Gx.encI w x401 p403 c404) (x406 : List Balloon) (p408 : Option Addr) (c409 : Nat) (h410 : rdD deepBalloon w x406 p408 c409) {r : Bool} (hm : M.s_l18Good x401 x406 = some r) :
    Calls Try.prog 47 #[.slice p403 x401.length c404, .slice p408 x406.length c409] w fun e w' => e = .returned (.bool r) ∧ Mem [] w w' [] := by
  unfold M.s_l18Good at hm
  refine C_enter Try.func47 rfl (by kernel_rfl) ?_
  have M0 := Mem.refl [] w
  refine G_seq ?_
  refine G_region ?_
  refine W_run 1 [(0, .slice p403 x401.length c404), (1, .slice p408 x406.length c409)] w (by kernel_rfl) ?_
  refine W_nil ?_
  refine N_then ?_
  refine G_seq ?_
  refine G_seq ?_
  refine G_region ?_
  refine W_run 1 [(0, .slice p403 x401.length c404), (1, .slice p408 x406.length c409), (9, .slice p403 x401.length c404)] w (by kernel_rfl) ?_
  obtain ⟨r468, hr468, hm⟩ := gx_bind hm
  refine W_call 79 #[.slice p403 x401.length c404] (by kernel_rfl) (by kernel_rfl) ?_
  refine (c_s_l2Good w x401 p403 c404 (h405.mem0 M0) hr468).mono ?_
  rintro e_ w469 ⟨rfl, K470⟩
  have M471 := M0.call0 K470
  refine ⟨_, rfl, ?_⟩
  refine W_run 1 [(0, .slice p403 x401.length c404), (1, .slice p408 x406.length c409), (11, .bool (!r468))] w469 (by kernel_rfl) ?_
  refine W_nil ?_
  refine N_then ?_
  rcases gx_bif hm with ⟨hc472, hm⟩ | ⟨hc472, hm⟩
  · refine G_cond_t (b := (!r468)) hc472 (by kernel_rfl) ?_
    refine G_seq ?_
    refine G_region ?_
    refine W_run 1 [(4, .bool false)] w469 (by kernel_rfl) ?_
    refine W_nil ?_
    refine N_then ?_
    refine G_ret ?_
    refine N_then_ret ?_
    obtain rfl := Option.some.inj hm
    refine N_ret [.bool false] (RVs_cons (RV_tmp (by kernel_rfl)) RVs_nil) ?_
    exact ⟨rfl, M471.pick [] (by kernel_rfl)⟩
  refine G_cond_f (b := (!r468)) hc472 (by kernel_rfl) ?_
  refine G_skip ?_
  refine N_then ?_
  refine G_seq ?_
  refine G_region ?_
  refine W_lit (E := Gx.encI) ([] : List Int) 0 [] 3 M471 (by kernel_rfl) (by kernel_rfl) (by kernel_rfl) (by kernel_rfl) (by kernel_rfl) ?_
  intro p473 c474 sg475 w476 ho477 M478
  refine W_run 1 [(0, .slice p403 x401.length c404), (1, .slice p408 x406.length c409), (5, .slice p473 ([] : List Int).length c474)] w476 (by kernel_rfl) ?_
  refine W_nil ?_
  refine N_then ?_
  refine G_seq ?_
  refine G_seq ?_
  refine G_region ?_
  refine W_run 1 [(0, .slice p403 x401.length c404), (1, .slice p408 x406.length c409), (5, .slice p473 ([] : List Int).length c474), (6, .int .i64 0)] w476 (by kernel_rfl) ?_
  refine W_nil ?_
  refine N_then ?_
  obtain ⟨out1041, hw1042, hmo1043⟩ := gx_bind hm
  refine G_meet (fun a w' => ∃ (o1049 : Unit), out1041 = .inl o1049 ∧ Mem [] w w' [] ∧ Sat Try.f47.ntmps [] a) ?_ ?_
  · refine G_block ?_
    refine G_while (σ := List Int × Int) (ρ := (Unit) ⊕ (Bool)) (fun s1034 a w' => ∃ (p1044 : Option Addr), ∃ (c1045 : Nat), ∃ (sg1046 : Seg), ownS Gx.encI s1034.1 p1044 c1045 sg1046 ∧ Mem [] w w' [sg1046] ∧ Sat Try.f47.ntmps [(0, .slice p403 x401.length c404), (1, .slice p408 x406.length c409), (5, .slice p1044 s1034.1.length c1045), (6, .int .i64 s1034.2)] a) hw1042 (fun a ha => ⟨p473, c474, sg475, ho477, M478.pick [0] (by kernel_rfl), ha.sub (by kernel_rfl)⟩) ?_
    clear hm
    intro s1034 x1035 hm hout1036 a1037 w1038 ⟨p1044, c1045, sg1046, ho1047, M1039, hS1040⟩
    refine G_use hS1040 ?_
    refine G_seq ?_
    refine G_seq ?_
    refine G_region ?_
    refine W_run 4 [(0, .slice p403 x401.length c404), (1, .slice p408 x406.length c409), (5, .slice p1044 s1034.1.length c1045), (6, .int .i64 s1034.2), (16, .bool (decide (s1034.2 < (x406.length : Int))))] w1038 (by kernel_rfl) ?_
    refine W_nil ?_
    refine N_then ?_
    rcases gx_bif hm with ⟨hc1050, hm⟩ | ⟨hc1050, hm⟩
    · refine G_cond_t (b := (decide (s1034.2 < (x406.length : Int)))) hc1050 (by kernel_rfl) ?_
      refine G_skip ?_
      refine N_then ?_
      refine G_seq ?_
      refine G_block ?_
      refine G_seq ?_
      refine G_region ?_
      refine W_run 2 [(0, .slice p403 x401.length c404), (1, .slice p408 x406.length c409), (5, .slice p1044 s1034.1.length c1045), (6, .int .i64 s1034.2), (19, .slice p408 x406.length c409), (20, .int .i64 s1034.2)] w1038 (by kernel_rfl) ?_
      obtain ⟨y1051, hy1051, hm⟩ := gx_bind hm
      obtain ⟨zs1052, hz1053, hr1054, hi1055⟩ := id h410
      obtain ⟨g1056, hg1057⟩ := gxIdx_fst hz1053 hy1051
      refine W_val (elemP p408 (s1034.2.toNat * 3)) w1038 (by kernel_rfl) (E_index (E := deepBalloon.E) _ _ _ x406.length c409 .i64 s1034.2 3 (y := (y1051, g1056)) rfl (by kernel_rfl) (by kernel_rfl) (by kernel_rfl) (hr1054.mem0 M1039) (len_fst hz1053) hg1057) ?_
      refine W_val (.agg #[.int .i64 y1051.Guest, .int .i64 y1051.Goal, .slice ((g1056 0).1) y1051.Gave.length ((g1056 0).2)]) w1038 (by kernel_rfl) (E_loadE (E := deepBalloon.E) _ _ true 3 s1034.2 0 (s1034.2.toNat * 3) (y1051, g1056) (.agg #[.int .i64 y1051.Guest, .int .i64 y1051.Goal, .slice ((g1056 0).1) y1051.Gave.length ((g1056 0).2)]) rfl (by kernel_rfl) (by kernel_rfl) (by kernel_rfl) (hr1054.mem0 M1039) hg1057 rfl) ?_
      refine W_new (fun b => .pointer (some ⟨b, 0, none⟩)) (.cells ⟨[.int .i64 0, .int .i64 0, .slice none 0 0]⟩ 50 (0, 0)) M1039 rfl (by kernel_rfl) (by kernel_rfl) ?_
      intro b1061 w1062 M1063
      refine W_store _ _ _ true 3 b1061 0 [.int .i64 0, .int .i64 0, .slice none 0 0] 50 (.agg #[.int .i64 y1051.Guest, .int .i64 y1051.Goal, .slice ((g1056 0).1) y1051.Gave.length ((g1056 0).2)]) 1 [.int .i64 y1051.Guest, .int .i64 y1051.Goal, .slice ((g1056 0).1) y1051.Gave.length ((g1056 0).2)] M1063 (by kernel_rfl) rfl (by kernel_rfl) (by kernel_rfl) (by kernel_rfl) (by kernel_rfl) (by kernel_rfl) (by kernel_rfl) (by kernel_rfl) (by kernel_rfl) ?_
      intro w1064 M1065
      refine W_nil ?_
      refine N_then ?_
      refine G_seq ?_
      refine G_seq ?_
      obtain ⟨o1100, ho1101, hm1102⟩ := gx_bind hm
      refine G_meet (fun a w' => Mem [] w w' [sg1046, [(b1061, .cells ⟨[.int .i64 y1051.Guest, .int .i64 y1051.Goal, .slice ((g1056 0).1) y1051.Gave.length ((g1056 0).2)]⟩ 50 (0, 0))]] ∧ Sat Try.f47.ntmps [(0, .slice p403 x401.length c404), (1, .slice p408 x406.length c409), (5, .slice p1044 s1034.1.length c1045), (6, .int .i64 s1034.2), (7, .pointer (some ⟨b1061, 0, none⟩)), (56, .bool o1100)] a) ?_ ?_
      · have hm := ho1101
        refine G_quiet (by kernel_rfl) (by kernel_rfl) M1065 ?_
        refine Z_runs [.pointer (some ⟨b1061, 0, none⟩)] [(0, .slice p403 x401.length c404), (1, .slice p408 x406.length c409), (5, .slice p1044 s1034.1.length c1045), (6, .int .i64 s1034.2), (7, .pointer (some ⟨b1061, 0, none⟩)), (23, .pointer (some ⟨b1061, 0, none⟩))] (fun w_ => by kernel_rfl) (by kernel_rfl) ?_
        refine Z_val (.int .i64 y1051.Guest) (by kernel_rfl) (fun w_ M_ => (E_load (e := 50) (fr := (0, 0)) _ _ false 1 b1061 0 [.int .i64 y1051.Guest, .int .i64 y1051.Goal, .slice ((g1056 0).1) y1051.Gave.length ((g1056 0).2)] (.int .i64 y1051.Guest) rfl (by kernel_rfl) (by kernel_rfl) (by kernel_rfl) (M_.blk 1 (b := b1061) (o := .cells ⟨[.int .i64 y1051.Guest, .int .i64 y1051.Goal, .slice ((g1056 0).1) y1051.Gave.length ((g1056 0).2)]⟩ 50 (0, 0)) (by kernel_rfl)))) ?_
        obtain ⟨r1103, hr1103, hm⟩ := gx_bind hm
        refine Z_call 57 #[.int .i64 y1051.Guest, .int .i64 1, .int .i64 4] (.bool r1103) (by kernel_rfl) (fun w_ => by kernel_rfl) (fun w_ M_ => (c_s_l1In w_ y1051.Guest 1 4 hr1103).mono fun e w2_ h_ => ⟨h_.1, M_.call0 h_.2⟩) ?_
        refine Z_runs [.bool (!r1103), .bool (!r1103)] [(0, .slice p403 x401.length c404), (1, .slice p408 x406.length c409), (5, .slice p1044 s1034.1.length c1045), (6, .int .i64 s1034.2), (7, .pointer (some ⟨b1061, 0, none⟩)), (27, .bool (!r1103))] (fun w_ => by kernel_rfl) (by kernel_rfl) ?_
        rcases gx_bif hm with ⟨hc1107, hm⟩ | ⟨hc1107, hm⟩
        · refine Z_known 27 true (by kernel_rfl) hc1107 ?_
          refine Z_runs [undef, undef, undef, undef, .bool true, .bool true, undef, undef, undef, undef, undef, undef, undef, undef, undef, undef, undef, undef, undef, .bool true, .bool true, undef, undef, undef, undef, undef, undef, undef, .bool true] [(0, .slice p403 x401.length c404), (1, .slice p408 x406.length c409), (5, .slice p1044 s1034.1.length c1045), (6, .int .i64 s1034.2), (7, .pointer (some ⟨b1061, 0, none⟩)), (56, .bool true)] (fun w_ => by kernel_rfl) (by kernel_rfl) ?_
          refine Z_end fun w1108 M1109 => ?_
          obtain rfl := Option.some.inj hm
          exact N_meet fun a ha => ⟨M1109.pick [0, 1] (by kernel_rfl), ha.sub (by kernel_rfl)⟩
        refine Z_known 27 false (by kernel_rfl) hc1107 ?_
        refine Z_runs [.pointer (some ⟨b1061, 1, none⟩)] [(0, .slice p403 x401.length c404), (1, .slice p408 x406.length c409), (5, .slice p1044 s1034.1.length c1045), (6, .int .i64 s1034.2), (7, .pointer (some ⟨b1061, 0, none⟩)), (27, .bool false), (28, .pointer (some ⟨b1061, 1, none⟩))] (fun w_ => by kernel_rfl) (by kernel_rfl) ?_
        refine Z_val (.int .i64 y1051.Goal) (by kernel_rfl) (fun w_ M_ => (E_load (e := 50) (fr := (0, 0)) _ _ false 1 b1061 1 [.int .i64 y1051.Guest, .int .i64 y1051.Goal, .slice ((g1056 0).1) y1051.Gave.length ((g1056 0).2)] (.int .i64 y1051.Goal) rfl (by kernel_rfl) (by kernel_rfl) (by kernel_rfl) (M_.blk 1 (b := b1061) (o := .cells ⟨[.int .i64 y1051.Guest, .int .i64 y1051.Goal, .slice ((g1056 0).1) y1051.Gave.length ((g1056 0).2)]⟩ 50 (0, 0)) (by kernel_rfl)))) ?_
        obtain ⟨r1110, hr1110, hm⟩ := gx_bind hm
        refine Z_call 57 #[.int .i64 y1051.Goal, .int .i64 0, .int .i64 16] (.bool r1110) (by kernel_rfl) (fun w_ => by kernel_rfl) (fun w_ M_ => (c_s_l1In w_ y1051.Goal 0 16 hr1110).mono fun e w2_ h_ => ⟨h_.1, M_.call0 h_.2⟩) ?_
        refine Z_runs [.bool (!r1110), .bool (!r1110), .bool (!r1110)] [(0, .slice p403 x401.length c404), (1, .slice p408 x406.length c409), (5, .slice p1044 s1034.1.length c1045), (6, .int .i64 s1034.2), (7, .pointer (some ⟨b1061, 0, none⟩)), (33, .bool (!r1110))] (fun w_ => by kernel_rfl) (by kernel_rfl) ?_
        rcases gx_bif hm with ⟨hc1114, hm⟩ | ⟨hc1114, hm⟩
        · refine Z_known 33 true (by kernel_rfl) hc1114 ?_
          refine Z_runs [undef, undef, undef, undef, undef, undef, undef, undef, undef, undef, undef, undef, undef, .bool true, .bool true, undef, undef, undef, undef, undef, undef, undef, .bool true] [(0, .slice p403 x401.length c404), (1, .slice p408 x406.length c409), (5, .slice p1044 s1034.1.length c1045), (6, .int .i64 s1034.2), (7, .pointer (some ⟨b1061, 0, none⟩)), (56, .bool true)] (fun w_ => by kernel_rfl) (by kernel_rfl) ?_
          refine Z_end fun w1115 M1116 => ?_
          obtain rfl := Option.some.inj hm
          exact N_meet fun a ha => ⟨M1116.pick [0, 1] (by kernel_rfl), ha.sub (by kernel_rfl)⟩
        refine Z_known 33 false (by kernel_rfl) hc1114 ?_
        refine Z_runs [.int .i64 s1034.2, .bool (decide (s1034.2 > 0)), .bool (decide (s1034.2 > 0))] [(0, .slice p403 x401.length c404), (1, .slice p408 x406.length c409), (5, .slice p1044 s1034.1.length c1045), (6, .int .i64 s1034.2), (7, .pointer (some ⟨b1061, 0, none⟩)), (33, .bool false), (36, .bool (decide (s1034.2 > 0)))] (fun w_ => by kernel_rfl) (by kernel_rfl) ?_
        rcases gx_bif hm with ⟨hc1117, hm⟩ | ⟨hc1117, hm⟩
        · refine Z_known 36 true (by kernel_rfl) hc1117 ?_
          refine Z_runs [.slice p408 x406.length c409, .int .i64 s1034.2, .int .i64 (w64 (s1034.2 - 1))] [(0, .slice p403 x401.length c404), (1, .slice p408 x406.length c409), (5, .slice p1044 s1034.1.length c1045), (6, .int .i64 s1034.2), (7, .pointer (some ⟨b1061, 0, none⟩)), (33, .bool false), (36, .bool true), (37, .slice p408 x406.length c409), (39, .int .i64 (w64 (s1034.2 - 1)))] (fun w_ => by kernel_rfl) (by kernel_rfl) ?_
          obtain ⟨y1118, hy1118, hm⟩ := gx_bind hm
          obtain ⟨g1119, hg1120⟩ := gxIdx_fst hz1053 hy1118
          refine Z_val (elemP p408 ((w64 (s1034.2 - 1)).toNat * 3)) (by kernel_rfl) (fun w_ M_ => (E_index (E := deepBalloon.E) _ _ _ x406.length c409 .i64 (w64 (s1034.2 - 1)) 3 (y := (y1118, g1119)) rfl (by kernel_rfl) (by kernel_rfl) (by kernel_rfl) (hr1054.mem0 M_) (len_fst hz1053) hg1120)) ?_
          refine Z_val (elemP p408 ((w64 (s1034.2 - 1)).toNat * 3 + 0)) (by kernel_rfl) (fun w_ M_ => (E_fieldE (E := deepBalloon.E) _ _ 0 ((w64 (s1034.2 - 1)).toNat * 3) 0 rfl (by kernel_rfl) (by kernel_rfl) (hr1054.mem0 M_) hg1120)) ?_
          refine Z_val (.int .i64 y1118.Guest) (by kernel_rfl) (fun w_ M_ => (E_loadE (E := deepBalloon.E) _ _ false 1 (w64 (s1034.2 - 1)) 0 ((w64 (s1034.2 - 1)).toNat * 3 + 0) (y1118, g1119) (.int .i64 y1118.Guest) rfl (by kernel_rfl) (by kernel_rfl) (by kernel_rfl) (hr1054.mem0 M_) hg1120 rfl)) ?_
          refine Z_runs [.pointer (some ⟨b1061, 0, none⟩)] [(0, .slice p403 x401.length c404), (1, .slice p408 x406.length c409), (5, .slice p1044 s1034.1.length c1045), (6, .int .i64 s1034.2), (7, .pointer (some ⟨b1061, 0, none⟩)), (33, .bool false), (36, .bool true), (42, .int .i64 y1118.Guest), (43, .pointer (some ⟨b1061, 0, none⟩))] (fun w_ => by kernel_rfl) (by kernel_rfl) ?_
          refine Z_val (.int .i64 y1051.Guest) (by kernel_rfl) (fun w_ M_ => (E_load (e := 50) (fr := (0, 0)) _ _ false 1 b1061 0 [.int .i64 y1051.Guest, .int .i64 y1051.Goal, .slice ((g1056 0).1) y1051.Gave.length ((g1056 0).2)] (.int .i64 y1051.Guest) rfl (by kernel_rfl) (by kernel_rfl) (by kernel_rfl) (M_.blk 1 (b := b1061) (o := .cells ⟨[.int .i64 y1051.Guest, .int .i64 y1051.Goal, .slice ((g1056 0).1) y1051.Gave.length ((g1056 0).2)]⟩ 50 (0, 0)) (by kernel_rfl)))) ?_
          refine Z_runs [.bool (decide (y1118.Guest ≥ y1051.Guest)), .bool (decide (y1118.Guest ≥ y1051.Guest)), .bool (decide (y1118.Guest ≥ y1051.Guest)), .bool (decide (y1118.Guest ≥ y1051.Guest))] [(0, .slice p403 x401.length c404), (1, .slice p408 x406.length c409), (5, .slice p1044 s1034.1.length c1045), (6, .int .i64 s1034.2), (7, .pointer (some ⟨b1061, 0, none⟩)), (48, .bool (decide (y1118.Guest ≥ y1051.Guest)))] (fun w_ => by kernel_rfl) (by kernel_rfl) ?_
          rcases gx_bif hm with ⟨hc1122, hm⟩ | ⟨hc1122, hm⟩
          · refine Z_known 48 true (by kernel_rfl) hc1122 ?_
            refine Z_runs [undef, undef, undef, undef, undef, undef, undef, .bool true] [(0, .slice p403 x401.length c404), (1, .slice p408 x406.length c409), (5, .slice p1044 s1034.1.length c1045), (6, .int .i64 s1034.2), (7, .pointer (some ⟨b1061, 0, none⟩)), (56, .bool true)] (fun w_ => by kernel_rfl) (by kernel_rfl) ?_
            refine Z_end fun w1123 M1124 => ?_
            obtain rfl := Option.some.inj hm
            exact N_meet fun a ha => ⟨M1124.pick [0, 1] (by kernel_rfl), ha.sub (by kernel_rfl)⟩
          refine Z_known 48 false (by kernel_rfl) hc1122 ?_
          refine Z_runs [.pointer (some ⟨b1061, 2, none⟩)] [(0, .slice p403 x401.length c404), (1, .slice p408 x406.length c409), (5, .slice p1044 s1034.1.length c1045), (6, .int .i64 s1034.2), (7, .pointer (some ⟨b1061, 0, none⟩)), (48, .bool false), (49, .pointer (some ⟨b1061, 2, none⟩))] (fun w_ => by kernel_rfl) (by kernel_rfl) ?_
          refine Z_val (.slice ((g1056 0).1) y1051.Gave.length ((g1056 0).2)) (by kernel_rfl) (fun w_ M_ => (E_load (e := 50) (fr := (0, 0)) _ _ false 1 b1061 2 [.int .i64 y1051.Guest, .int .i64 y1051.Goal, .slice ((g1056 0).1) y1051.Gave.length ((g1056 0).2)] (.slice ((g1056 0).1) y1051.Gave.length ((g1056 0).2)) rfl (by kernel_rfl) (by kernel_rfl) (by kernel_rfl) (M_.blk 1 (b := b1061) (o := .cells ⟨[.int .i64 y1051.Guest, .int .i64 y1051.Goal, .slice ((g1056 0).1) y1051.Gave.length ((g1056 0).2)]⟩ 50 (0, 0)) (by kernel_rfl)))) ?_
          refine Z_runs [.slice p403 x401.length c404, .int .i64 (x401.length : Int), .int .i64 (w64 ((x401.length : Int) - 1))] [(0, .slice p403 x401.length c404), (1, .slice p408 x406.length c409), (5, .slice p1044 s1034.1.length c1045), (6, .int .i64 s1034.2), (7, .pointer (some ⟨b1061, 0, none⟩)), (48, .bool false), (50, .slice ((g1056 0).1) y1051.Gave.length ((g1056 0).2)), (53, .int .i64 (w64 ((x401.length : Int) - 1)))] (fun w_ => by kernel_rfl) (by kernel_rfl) ?_
          obtain ⟨r1125, hr1125, hm⟩ := gx_bind hm
          refine Z_call 80 #[.slice ((g1056 0).1) y1051.Gave.length ((g1056 0).2), .int .i64 0, .int .i64 (w64 ((x401.length : Int) - 1))] (.bool r1125) (by kernel_rfl) (fun w_ => by kernel_rfl) (fun w_ M_ => (c_s_l1Rising w_ y1051.Gave ((g1056 0).1) ((g1056 0).2) ((hi1055.mem0 M_).at_ hg1057 0 ⟨Int, Gx.encI, y1051.Gave, (g1056 0).1, (g1056 0).2⟩ (by kernel_rfl)) 0 (w64 ((x401.length : Int) - 1)) hr1125).mono fun e w2_ h_ => ⟨h_.1, M_.call0 h_.2⟩) ?_
          refine Z_runs [.bool (!r1125), .bool (!r1125)] [(0, .slice p403 x401.length c404), (1, .slice p408 x406.length c409), (5, .slice p1044 s1034.1.length c1045), (6, .int .i64 s1034.2), (7, .pointer (some ⟨b1061, 0, none⟩)), (56, .bool (!r1125))] (fun w_ => by kernel_rfl) (by kernel_rfl) ?_
          refine Z_end fun w1129 M1130 => ?_
          obtain rfl := Option.some.inj hm
          exact N_meet fun a ha => ⟨M1130.pick [0, 1] (by kernel_rfl), ha.sub (by kernel_rfl)⟩
        refine Z_known 36 false (by kernel_rfl) hc1117 ?_
        refine Z_runs [undef, undef, undef, undef, undef, undef, undef, undef, undef, .bool false, .bool false, .bool false, .pointer (some ⟨b1061, 2, none⟩)] [(0, .slice p403 x401.length c404), (1, .slice p408 x406.length c409), (5, .slice p1044 s1034.1.length c1045), (6, .int .i64 s1034.2), (7, .pointer (some ⟨b1061, 0, none⟩)), (48, .bool false), (49, .pointer (some ⟨b1061, 2, none⟩))] (fun w_ => by kernel_rfl) (by kernel_rfl) ?_
        refine Z_val (.slice ((g1056 0).1) y1051.Gave.length ((g1056 0).2)) (by kernel_rfl) (fun w_ M_ => (E_load (e := 50) (fr := (0, 0)) _ _ false 1 b1061 2 [.int .i64 y1051.Guest, .int .i64 y1051.Goal, .slice ((g1056 0).1) y1051.Gave.length ((g1056 0).2)] (.slice ((g1056 0).1) y1051.Gave.length ((g1056 0).2)) rfl (by kernel_rfl) (by kernel_rfl) (by kernel_rfl) (M_.blk 1 (b := b1061) (o := .cells ⟨[.int .i64 y1051.Guest, .int .i64 y1051.Goal, .slice ((g1056 0).1) y1051.Gave.length ((g1056 0).2)]⟩ 50 (0, 0)) (by kernel_rfl)))) ?_
        refine Z_runs [.slice p403 x401.length c404, .int .i64 (x401.length : Int), .int .i64 (w64 ((x401.length : Int) - 1))] [(0, .slice p403 x401.length c404), (1, .slice p408 x406.length c409), (5, .slice p1044 s1034.1.length c1045), (6, .int .i64 s1034.2), (7, .pointer (some ⟨b1061, 0, none⟩)), (48, .bool false), (50, .slice ((g1056 0).1) y1051.Gave.length ((g1056 0).2)), (53, .int .i64 (w64 ((x401.length : Int) - 1)))] (fun w_ => by kernel_rfl) (by kernel_rfl) ?_
        obtain ⟨r1131, hr1131, hm⟩ := gx_bind hm
        refine Z_call 80 #[.slice ((g1056 0).1) y1051.Gave.length ((g1056 0).2), .int .i64 0, .int .i64 (w64 ((x401.length : Int) - 1))] (.bool r1131) (by kernel_rfl) (fun w_ => by kernel_rfl) (fun w_ M_ => (c_s_l1Rising w_ y1051.Gave ((g1056 0).1) ((g1056 0).2) ((hi1055.mem0 M_).at_ hg1057 0 ⟨Int, Gx.encI, y1051.Gave, (g1056 0).1, (g1056 0).2⟩ (by kernel_rfl)) 0 (w64 ((x401.length : Int) - 1)) hr1131).mono fun e w2_ h_ => ⟨h_.1, M_.call0 h_.2⟩) ?_
        refine Z_runs [.bool (!r1131), .bool (!r1131)] [(0, .slice p403 x401.length c404), (1, .slice p408 x406.length c409), (5, .slice p1044 s1034.1.length c1045), (6, .int .i64 s1034.2), (7, .pointer (some ⟨b1061, 0, none⟩)), (56, .bool (!r1131))] (fun w_ => by kernel_rfl) (by kernel_rfl) ?_
        refine Z_end fun w1135 M1136 => ?_
        obtain rfl := Option.some.inj hm
        exact N_meet fun a ha => ⟨M1136.pick [0, 1] (by kernel_rfl), ha.sub (by kernel_rfl)⟩
      intro a1139 w1137 ⟨M1138, hS1140⟩
      refine N_use hS1140 ?_
      have hm := hm1102
      refine N_then ?_
      rcases gx_bif hm with ⟨hc1141, hm⟩ | ⟨hc1141, hm⟩
      · refine G_cond_t (b := o1100) hc1141 (by kernel_rfl) ?_
        refine G_seq ?_
        refine G_region ?_
        refine W_run 1 [(4, .bool false)] w1137 (by kernel_rfl) ?_
        refine W_nil ?_
        refine N_then ?_
        refine G_ret ?_
        refine N_then_ret ?_
        refine N_block_ret ?_
        refine N_then_ret ?_
        refine N_then_ret ?_
        obtain rfl := Option.some.inj hm
        obtain rfl := hout1036 _ rfl
        have hm := hmo1043; simp only [Sum.elim_inr] at hm
        refine N_block_ret ?_
        refine N_meet_ret ?_
        refine N_then_ret ?_
        obtain rfl := Option.some.inj hm
        refine N_ret [.bool false] (RVs_cons (RV_tmp (by kernel_rfl)) RVs_nil) ?_
        exact ⟨rfl, M1138.pick [] (by kernel_rfl)⟩
      refine G_cond_f (b := o1100) hc1141 (by kernel_rfl) ?_
      refine G_skip ?_
      refine N_then ?_
      refine G_seq ?_
      refine G_seq ?_
      refine G_region ?_
      refine W_run 1 [(0, .slice p403 x401.length c404), (1, .slice p408 x406.length c409), (5, .slice p1044 s1034.1.length c1045), (6, .int .i64 s1034.2), (7, .pointer (some ⟨b1061, 0, none⟩)), (8, .int .i64 0)] w1137 (by kernel_rfl) ?_
      refine W_nil ?_
      refine N_then ?_
      obtain ⟨out1199, hw1200, hmo1201⟩ := gx_bind hm
      refine G_meet (fun a w' => ∃ (o1202 : Unit), out1199 = .inl o1202 ∧ Mem [] w w' [sg1046, [(b1061, .cells ⟨[.int .i64 y1051.Guest, .int .i64 y1051.Goal, .slice ((g1056 0).1) y1051.Gave.length ((g1056 0).2)]⟩ 50 (0, 0))]] ∧ Sat Try.f47.ntmps [(0, .slice p403 x401.length c404), (1, .slice p408 x406.length c409), (5, .slice p1044 s1034.1.length c1045), (6, .int .i64 s1034.2), (7, .pointer (some ⟨b1061, 0, none⟩))] a) ?_ ?_
      · refine G_block ?_
        refine G_while (σ := Int) (ρ := (Unit) ⊕ (Bool)) (fun s1192 a w' => Mem [] w w' [sg1046, [(b1061, .cells ⟨[.int .i64 y1051.Guest, .int .i64 y1051.Goal, .slice ((g1056 0).1) y1051.Gave.length ((g1056 0).2)]⟩ 50 (0, 0))]] ∧ Sat Try.f47.ntmps [(0, .slice p403 x401.length c404), (1, .slice p408 x406.length c409), (5, .slice p1044 s1034.1.length c1045), (6, .int .i64 s1034.2), (7, .pointer (some ⟨b1061, 0, none⟩)), (8, .int .i64 s1192)] a) hw1200 (fun a ha => ⟨M1138.pick [0, 1] (by kernel_rfl), ha.sub (by kernel_rfl)⟩) ?_
        clear hm
        intro s1192 x1193 hm hout1194 a1195 w1196 ⟨M1197, hS1198⟩
        refine G_use hS1198 ?_
        refine G_seq ?_
        refine G_seq ?_
        refine G_region ?_
        refine W_run 2 [(0, .slice p403 x401.length c404), (1, .slice p408 x406.length c409), (5, .slice p1044 s1034.1.length c1045), (6, .int .i64 s1034.2), (7, .pointer (some ⟨b1061, 0, none⟩)), (8, .int .i64 s1192), (57, .int .i64 s1192), (58, .pointer (some ⟨b1061, 2, none⟩))] w1196 (by kernel_rfl) ?_
        refine W_val (.slice ((g1056 0).1) y1051.Gave.length ((g1056 0).2)) w1196 (by kernel_rfl) (E_load (e := 50) (fr := (0, 0)) _ _ false 1 b1061 2 [.int .i64 y1051.Guest, .int .i64 y1051.Goal, .slice ((g1056 0).1) y1051.Gave.length ((g1056 0).2)] (.slice ((g1056 0).1) y1051.Gave.length ((g1056 0).2)) rfl (by kernel_rfl) (by kernel_rfl) (by kernel_rfl) (M1197.blk 1 (b := b1061) (o := .cells ⟨[.int .i64 y1051.Guest, .int .i64 y1051.Goal, .slice ((g1056 0).1) y1051.Gave.length ((g1056 0).2)]⟩ 50 (0, 0)) (by kernel_rfl))) ?_
        refine W_run 2 [(0, .slice p403 x401.length c404), (1, .slice p408 x406.length c409), (5, .slice p1044 s1034.1.length c1045), (6, .int .i64 s1034.2), (7, .pointer (some ⟨b1061, 0, none⟩)), (8, .int .i64 s1192), (61, .bool (decide (s1192 < (y1051.Gave.length : Int))))] w1196 (by kernel_rfl) ?_
        refine W_nil ?_
        refine N_then ?_
        rcases gx_bif hm with ⟨hc1203, hm⟩ | ⟨hc1203, hm⟩
        · refine G_cond_t (b := (decide (s1192 < (y1051.Gave.length : Int)))) hc1203 (by kernel_rfl) ?_
          refine G_skip ?_
          refine N_then ?_
          refine G_seq ?_
          refine G_block ?_
          refine G_seq ?_
          obtain ⟨o1212, ho1213, hm1214⟩ := gx_bind hm
          refine G_meet (fun a w' => Mem [] w w' [sg1046, [(b1061, .cells ⟨[.int .i64 y1051.Guest, .int .i64 y1051.Goal, .slice ((g1056 0).1) y1051.Gave.length ((g1056 0).2)]⟩ 50 (0, 0))]] ∧ Sat Try.f47.ntmps [(0, .slice p403 x401.length c404), (1, .slice p408 x406.length c409), (5, .slice p1044 s1034.1.length c1045), (6, .int .i64 s1034.2), (7, .pointer (some ⟨b1061, 0, none⟩)), (8, .int .i64 s1192), (81, .bool o1212)] a) ?_ ?_
          · have hm := ho1213
            refine G_region ?_
            refine W_run 2 [(0, .slice p403 x401.length c404), (1, .slice p408 x406.length c409), (5, .slice p1044 s1034.1.length c1045), (6, .int .i64 s1034.2), (7, .pointer (some ⟨b1061, 0, none⟩)), (8, .int .i64 s1192), (64, .slice p403 x401.length c404), (65, .pointer (some ⟨b1061, 2, none⟩))] w1196 (by kernel_rfl) ?_
            refine W_val (.slice ((g1056 0).1) y1051.Gave.length ((g1056 0).2)) w1196 (by kernel_rfl) (E_load (e := 50) (fr := (0, 0)) _ _ false 1 b1061 2 [.int .i64 y1051.Guest, .int .i64 y1051.Goal, .slice ((g1056 0).1) y1051.Gave.length ((g1056 0).2)] (.slice ((g1056 0).1) y1051.Gave.length ((g1056 0).2)) rfl (by kernel_rfl) (by kernel_rfl) (by kernel_rfl) (M1197.blk 1 (b := b1061) (o := .cells ⟨[.int .i64 y1051.Guest, .int .i64 y1051.Goal, .slice ((g1056 0).1) y1051.Gave.length ((g1056 0).2)]⟩ 50 (0, 0)) (by kernel_rfl))) ?_
            refine W_run 1 [(0, .slice p403 x401.length c404), (1, .slice p408 x406.length c409), (5, .slice p1044 s1034.1.length c1045), (6, .int .i64 s1034.2), (7, .pointer (some ⟨b1061, 0, none⟩)), (8, .int .i64 s1192), (64, .slice p403 x401.length c404), (66, .slice ((g1056 0).1) y1051.Gave.length ((g1056 0).2)), (67, .int .i64 s1192)] w1196 (by kernel_rfl) ?_
            obtain ⟨y1215, hy1215, hm⟩ := gx_bind hm
            refine W_val (elemP ((g1056 0).1) (s1192.toNat * 1)) w1196 (by kernel_rfl) (E_index (E := Gx.encI) _ _ _ y1051.Gave.length ((g1056 0).2) .i64 s1192 1 (y := y1215) rfl (by kernel_rfl) (by kernel_rfl) (by kernel_rfl) ((hi1055.mem0 M1197).at_ hg1057 0 ⟨Int, Gx.encI, y1051.Gave, (g1056 0).1, (g1056 0).2⟩ (by kernel_rfl)) rfl hy1215) ?_
            refine W_val (.int .i64 y1215) w1196 (by kernel_rfl) (E_loadE (E := Gx.encI) _ _ false 1 s1192 0 (s1192.toNat * 1) y1215 (.int .i64 y1215) rfl (by kernel_rfl) (by kernel_rfl) (by kernel_rfl) ((hi1055.mem0 M1197).at_ hg1057 0 ⟨Int, Gx.encI, y1051.Gave, (g1056 0).1, (g1056 0).2⟩ (by kernel_rfl)) hy1215 rfl) ?_
            obtain ⟨y1216, hy1216, hm⟩ := gx_bind hm
            refine W_val (elemP p403 (y1215.toNat * 1)) w1196 (by kernel_rfl) (E_index (E := Gx.encI) _ _ _ x401.length c404 .i64 y1215 1 (y := y1216) rfl (by kernel_rfl) (by kernel_rfl) (by kernel_rfl) (h405.mem0 M1197) rfl hy1216) ?_
            refine W_val (.int .i64 y1216) w1196 (by kernel_rfl) (E_loadE (E := Gx.encI) _ _ false 1 y1215 0 (y1215.toNat * 1) y1216 (.int .i64 y1216) rfl (by kernel_rfl) (by kernel_rfl) (by kernel_rfl) (h405.mem0 M1197) hy1216 rfl) ?_
            refine W_run 2 [(0, .slice p403 x401.length c404), (1, .slice p408 x406.length c409), (5, .slice p1044 s1034.1.length c1045), (6, .int .i64 s1034.2), (7, .pointer (some ⟨b1061, 0, none⟩)), (8, .int .i64 s1192), (73, .bool (y1216 != 0))] w1196 (by kernel_rfl) ?_
            rcases gx_bif hm with ⟨hc1217, hm⟩ | ⟨hc1217, hm⟩
            · refine W_known 73 true (by kernel_rfl) hc1217 ?_
              refine W_run 8 [(0, .slice p403 x401.length c404), (1, .slice p408 x406.length c409), (5, .slice p1044 s1034.1.length c1045), (6, .int .i64 s1034.2), (7, .pointer (some ⟨b1061, 0, none⟩)), (8, .int .i64 s1192), (81, .bool true)] w1196 (by kernel_rfl) ?_
              refine W_nil ?_
              obtain rfl := Option.some.inj hm
              exact N_meet fun a ha => ⟨M1197.pick [0, 1] (by kernel_rfl), ha.sub (by kernel_rfl)⟩
            refine W_known 73 false (by kernel_rfl) hc1217 ?_
            refine W_run 2 [(0, .slice p403 x401.length c404), (1, .slice p408 x406.length c409), (5, .slice p1044 s1034.1.length c1045), (6, .int .i64 s1034.2), (7, .pointer (some ⟨b1061, 0, none⟩)), (8, .int .i64 s1192), (73, .bool false), (74, .slice p1044 s1034.1.length c1045), (75, .pointer (some ⟨b1061, 2, none⟩))] w1196 (by kernel_rfl) ?_
            refine W_val (.slice ((g1056 0).1) y1051.Gave.length ((g1056 0).2)) w1196 (by kernel_rfl) (E_load (e := 50) (fr := (0, 0)) _ _ false 1 b1061 2 [.int .i64 y1051.Guest, .int .i64 y1051.Goal, .slice ((g1056 0).1) y1051.Gave.length ((g1056 0).2)] (.slice ((g1056 0).1) y1051.Gave.length ((g1056 0).2)) rfl (by kernel_rfl) (by kernel_rfl) (by kernel_rfl) (M1197.blk 1 (b := b1061) (o := .cells ⟨[.int .i64 y1051.Guest, .int .i64 y1051.Goal, .slice ((g1056 0).1) y1051.Gave.length ((g1056 0).2)]⟩ 50 (0, 0)) (by kernel_rfl))) ?_
            refine W_run 1 [(0, .slice p403 x401.length c404), (1, .slice p408 x406.length c409), (5, .slice p1044 s1034.1.length c1045), (6, .int .i64 s1034.2), (7, .pointer (some ⟨b1061, 0, none⟩)), (8, .int .i64 s1192), (73, .bool false), (74, .slice p1044 s1034.1.length c1045), (76, .slice ((g1056 0).1) y1051.Gave.length ((g1056 0).2)), (77, .int .i64 s1192)] w1196 (by kernel_rfl) ?_
            obtain ⟨y1218, hy1218, hm⟩ := gx_bind hm
            refine W_val (elemP ((g1056 0).1) (s1192.toNat * 1)) w1196 (by kernel_rfl) (E_index (E := Gx.encI) _ _ _ y1051.Gave.length ((g1056 0).2) .i64 s1192 1 (y := y1218) rfl (by kernel_rfl) (by kernel_rfl) (by kernel_rfl) ((hi1055.mem0 M1197).at_ hg1057 0 ⟨Int, Gx.encI, y1051.Gave, (g1056 0).1, (g1056 0).2⟩ (by kernel_rfl)) rfl hy1218) ?_
            refine W_val (.int .i64 y1218) w1196 (by kernel_rfl) (E_loadE (E := Gx.encI) _ _ false 1 s1192 0 (s1192.toNat * 1) y1218 (.int .i64 y1218) rfl (by kernel_rfl) (by kernel_rfl) (by kernel_rfl) ((hi1055.mem0 M1197).at_ hg1057 0 ⟨Int, Gx.encI, y1051.Gave, (g1056 0).1, (g1056 0).2⟩ (by kernel_rfl)) hy1218 rfl) ?_
            obtain ⟨r1219, hr1219, hm⟩ := gx_bind hm
            refine W_call 81 #[.slice p1044 s1034.1.length c1045, .int .i64 y1218] (by kernel_rfl) (by kernel_rfl) ?_
            refine (c_s_l1Has w1196 s1034.1 p1044 c1045 (ho1047.rd M1197 0 (by kernel_rfl)) y1218 hr1219).mono ?_
            rintro e_ w1220 ⟨rfl, K1221⟩
            have M1222 := M1197.call0 K1221
            refine ⟨_, rfl, ?_⟩
            refine W_run 1 [(0, .slice p403 x401.length c404), (1, .slice p408 x406.length c409), (5, .slice p1044 s1034.1.length c1045), (6, .int .i64 s1034.2), (7, .pointer (some ⟨b1061, 0, none⟩)), (8, .int .i64 s1192), (81, .bool r1219)] w1220 (by kernel_rfl) ?_
            refine W_nil ?_
            obtain rfl := Option.some.inj hm
            exact N_meet fun a ha => ⟨M1222.pick [0, 1] (by kernel_rfl), ha.sub (by kernel_rfl)⟩
          intro a1225 w1223 ⟨M1224, hS1226⟩
          refine N_use hS1226 ?_
          have hm := hm1214
          refine N_then ?_
          rcases gx_bif hm with ⟨hc1227, hm⟩ | ⟨hc1227, hm⟩
          · refine G_cond_t (b := o1212) hc1227 (by kernel_rfl) ?_
            refine G_seq ?_
            refine G_region ?_
            refine W_run 1 [(4, .bool false)] w1223 (by kernel_rfl) ?_
            refine W_nil ?_
            refine N_then ?_
            refine G_ret ?_
            refine N_block_ret ?_
            refine N_then_ret ?_
            refine N_then_ret ?_
            obtain rfl := Option.some.inj hm
            obtain rfl := hout1194 _ rfl
            have hm := hmo1201; simp only [Sum.elim_inr] at hm
            refine N_block_ret ?_
            refine N_meet_ret ?_
            refine N_then_ret ?_
            refine N_block_ret ?_
            refine N_then_ret ?_
            refine N_then_ret ?_
            obtain rfl := Option.some.inj hm
            obtain rfl := hout1036 _ rfl
            have hm := hmo1043; simp only [Sum.elim_inr] at hm
            refine N_block_ret ?_
            refine N_meet_ret ?_
            refine N_then_ret ?_
            obtain rfl := Option.some.inj hm
            refine N_ret [.bool false] (RVs_cons (RV_tmp (by kernel_rfl)) RVs_nil) ?_
            exact ⟨rfl, M1224.pick [] (by kernel_rfl)⟩
          refine G_cond_f (b := o1212) hc1227 (by kernel_rfl) ?_
          refine G_skip ?_
          refine N_block ?_
          refine N_then ?_
          refine G_region ?_
          refine W_run 3 [(0, .slice p403 x401.length c404), (1, .slice p408 x406.length c409), (5, .slice p1044 s1034.1.length c1045), (6, .int .i64 s1034.2), (7, .pointer (some ⟨b1061, 0, none⟩)), (8, .int .i64 (w64 (s1192 + 1)))] w1223 (by kernel_rfl) ?_
          refine W_nil ?_
          obtain rfl := Option.some.inj hm
          exact N_loop fun a ha => ⟨_, rfl, M1224.pick [0, 1] (by kernel_rfl), ha.sub (by kernel_rfl)⟩
        refine G_cond_f (b := (decide (s1192 < (y1051.Gave.length : Int)))) hc1203 (by kernel_rfl) ?_
        refine G_exit ?_
        refine N_then_exit ?_
        refine N_then_exit ?_
        refine N_block_eq ?_
        obtain rfl := Option.some.inj hm
        obtain rfl := hout1194 _ rfl
        exact N_meet fun a ha => ⟨_, rfl, M1197.pick [0, 1] (by kernel_rfl), ha.sub (by kernel_rfl)⟩
      intro a1228 w1229 ⟨o1202, hout_, M1230, hS1231⟩
      refine N_use hS1231 ?_
      subst hout_
      have hm := hmo1201; simp only [Sum.elim_inl] at hm
      refine N_then ?_
      refine G_region ?_
      refine W_run 2 [(0, .slice p403 x401.length c404), (1, .slice p408 x406.length c409), (5, .slice p1044 s1034.1.length c1045), (6, .int .i64 s1034.2), (82, .slice p1044 s1034.1.length c1045), (83, .pointer (some ⟨b1061, 2, none⟩))] w1229 (by kernel_rfl) ?_
      refine W_val (.slice ((g1056 0).1) y1051.Gave.length ((g1056 0).2)) w1229 (by kernel_rfl) (E_load (e := 50) (fr := (0, 0)) _ _ false 1 b1061 2 [.int .i64 y1051.Guest, .int .i64 y1051.Goal, .slice ((g1056 0).1) y1051.Gave.length ((g1056 0).2)] (.slice ((g1056 0).1) y1051.Gave.length ((g1056 0).2)) rfl (by kernel_rfl) (by kernel_rfl) (by kernel_rfl) (M1230.blk 1 (b := b1061) (o := .cells ⟨[.int .i64 y1051.Guest, .int .i64 y1051.Goal, .slice ((g1056 0).1) y1051.Gave.length ((g1056 0).2)]⟩ 50 (0, 0)) (by kernel_rfl))) ?_
      obtain ⟨ap1232, hap1232, hm⟩ := gx_bind hm
      refine W_append (E := Gx.encI) _ _ _ 8 [.int .i64 0] 0 ((g1056 0).2) M1230 ho1047 (by kernel_rfl) (by kernel_rfl) (by kernel_rfl) rfl (by kernel_rfl) (by kernel_rfl) (by kernel_rfl) (by kernel_rfl) (by kernel_rfl) (by kernel_rfl) ((hi1055.mem0 M1230).at_ hg1057 0 ⟨Int, Gx.encI, y1051.Gave, (g1056 0).1, (g1056 0).2⟩ (by kernel_rfl)) hap1232 ?_
      intro p1233 c1234 sg1235 w1236 ho1237 M1238
      refine W_run 1 [(0, .slice p403 x401.length c404), (1, .slice p408 x406.length c409), (5, .slice p1233 ap1232.length c1234), (6, .int .i64 s1034.2)] w1236 (by kernel_rfl) ?_
      refine W_nil ?_
      refine N_block ?_
      refine N_then ?_
      refine G_region ?_
      refine W_run 3 [(0, .slice p403 x401.length c404), (1, .slice p408 x406.length c409), (5, .slice p1233 ap1232.length c1234), (6, .int .i64 (w64 (s1034.2 + 1)))] w1236 (by kernel_rfl) ?_
      refine W_nil ?_
      obtain rfl := Option.some.inj hm
      exact N_loop fun a ha => ⟨_, rfl, p1233, c1234, sg1235, ho1237, M1238.pick [0] (by kernel_rfl), ha.sub (by kernel_rfl)⟩
    refine G_cond_f (b := (decide (s1034.2 < (x406.length : Int)))) hc1050 (by kernel_rfl) ?_
    refine G_exit ?_
    refine N_then_exit ?_
    refine N_then_exit ?_
    refine N_block_eq ?_
    obtain rfl := Option.some.inj hm
    obtain rfl := hout1036 _ rfl
    exact N_meet fun a ha => ⟨_, rfl, M1039.pick [] (by kernel_rfl), ha.sub (by kernel_rfl)⟩
  intro a1240 w1241 ⟨o1049, hout_, M1242, hS1243⟩
  refine N_use hS1243 ?_
  subst hout_
  have hm := hmo1043; simp only [Sum.elim_inl] at hm
  refine N_then ?_
  refine G_seq ?_
  refine G_region ?_
  refine W_run 1 [(4, .bool true)] w1241 (by kernel_rfl) ?_
  refine W_nil ?_
  refine N_then ?_
  refine G_ret ?_
  obtain rfl := Option.some.inj hm
  refine N_ret [.bool true] (RVs_cons (RV_tmp (by kernel_rfl)) RVs_nil) ?_
  exact ⟨rfl, M1242.pick [] (by kernel_rfl)⟩
theorem c_s_AreBalloons (w : World) (x391 : List Int) (p393 : Option Addr) (c394 : Nat) (h395 : rdS Gx.encI w x391 p393 c394) (x396 : List Balloon) (p398 : Option Addr) (c399 : Nat) (h400 : rdD deepBalloon w x396 p398 c399) {r : Bool} (hm : M.s_AreBalloons x391 x396 = some r) :
    Calls Try.prog 14 #[.slice p393 x391.length c394, .slice p398 x396.length c399] w fun e w' => e = .returned (.bool r) ∧ Mem [] w w' [] := by
  unfold M.s_AreBalloons at hm
  refine C_enter Try.func14 rfl (by kernel_rfl) ?_
  have M0 := Mem.refl [] w
  refine G_seq ?_
  refine G_region ?_
  refine W_run 1 [(0, .slice p393 x391.length c394), (1, .slice p398 x396.length c399)] w (by kernel_rfl) ?_
  refine W_nil ?_
  refine N_then ?_
  refine G_seq ?_
  refine G_region ?_
  refine W_run 2 [(5, .slice p393 x391.length c394), (6, .slice p398 x396.length c399)] w (by kernel_rfl) ?_
  obtain ⟨r1244, hr1244, hm⟩ := gx_bind hm
  refine W_call 47 #[.slice p393 x391.length c394, .slice p398 x396.length c399] (by kernel_rfl) (by kernel_rfl) ?_
  refine (c_s_l18Good w x391 p393 c394 (h395.mem0 M0) x396 p398 c399 (h400.mem0 M0) hr1244).mono ?_
  rintro e_ w1245 ⟨rfl, K1246⟩
  have M1247 := M0.call0 K1246
  refine ⟨_, rfl, ?_⟩
  refine W_run 1 [(4, .bool r1244)] w1245 (by kernel_rfl) ?_
  refine W_nil ?_
  refine N_then ?_
  refine G_ret ?_
  obtain rfl := Option.some.inj hm
  refine N_ret [.bool r1244] (RVs_cons (RV_tmp (by kernel_rfl)) RVs_nil) ?_
  exact ⟨rfl, M1247.pick [] (by kernel_rfl)⟩
theorem c_i_inside (w : World) (x1286 : Int) (x1287 : Int) (x1288 : Int) {r : Bool} (hm : M.i_inside x1286 x1287 x1288 = some r) :
    Calls Try.prog 82 #[.int .i64 x1286, .int .i64 x1287, .int .i64 x1288] w fun e w' => e = .returned (.bool r) ∧ Mem [] w w' [] := by
  unfold M.i_inside at hm
  refine C_enter Try.func82 rfl (by kernel_rfl) ?_
  have M0 := Mem.refl [] w
  refine G_seq ?_
  refine G_region ?_
  refine W_run 1 [(0, .int .i64 x1286), (1, .int .i64 x1287), (2, .int .i64 x1288)] w (by kernel_rfl) ?_
  refine W_nil ?_
  refine N_then ?_
  refine G_seq ?_
  obtain ⟨o1290, ho1291, hm1292⟩ := gx_bind hm
  refine G_meet (fun a w' => Mem [] w w' [] ∧ Sat Try.f82.ntmps [(6, .bool o1290)] a) ?_ ?_
  · have hm := ho1291
    refine G_region ?_
    refine W_run 4 [(0, .int .i64 x1286), (2, .int .i64 x1288), (10, .bool (decide (x1286 ≥ x1287)))] w (by kernel_rfl) ?_
    rcases gx_bif hm with ⟨hc1293, hm⟩ | ⟨hc1293, hm⟩
    · refine W_known 10 true (by kernel_rfl) hc1293 ?_
      refine W_run 5 [(6, .bool (decide (x1286 ≤ x1288)))] w (by kernel_rfl) ?_
      refine W_nil ?_
      obtain rfl := Option.some.inj hm
      exact N_meet fun a ha => ⟨M0.pick [] (by kernel_rfl), ha.sub (by kernel_rfl)⟩
    refine W_known 10 false (by kernel_rfl) hc1293 ?_
    refine W_run 5 [(6, .bool false)] w (by kernel_rfl) ?_
    refine W_nil ?_
    obtain rfl := Option.some.inj hm
    exact N_meet fun a ha => ⟨M0.pick [] (by kernel_rfl), ha.sub (by kernel_rfl)⟩
  intro a1296 w1294 ⟨M1295, hS1297⟩
  refine N_use hS1297 ?_
  have hm := hm1292
  refine N_then ?_
  refine G_ret ?_
  obtain rfl := Option.some.inj hm
  refine N_ret [.bool o1290] (RVs_cons (RV_tmp (by kernel_rfl)) RVs_nil) ?_
  exact ⟨rfl, M1295.pick [] (by kernel_rfl)⟩
theorem c_i_AreOwners_1 (w : World) (x1315 : Int) {r : Bool} (hm : M.i_AreOwners_1 x1315 = some r) :
    Calls Try.prog 84 #[.int .i64 x1315] w fun e w' => e = .returned (.bool r) ∧ Mem [] w w' [] := by
  unfold M.i_AreOwners_1 at hm
  refine C_enter Try.func84 rfl (by kernel_rfl) ?_
  have M0 := Mem.refl [] w
  refine G_seq ?_
  refine G_region ?_
  refine W_run 1 [(0, .int .i64 x1315)] w (by kernel_rfl) ?_
  refine W_nil ?_
  refine N_then ?_
  refine G_seq ?_
  refine G_region ?_
  refine W_run 1 [(3, .int .i64 x1315)] w (by kernel_rfl) ?_
  obtain ⟨r1316, hr1316, hm⟩ := gx_bind hm
  refine W_call 82 #[.int .i64 x1315, .int .i64 0, .int .i64 4] (by kernel_rfl) (by kernel_rfl) ?_
  refine (c_i_inside w x1315 0 4 hr1316).mono ?_
  rintro e_ w1317 ⟨rfl, K1318⟩
  have M1319 := M0.call0 K1318
  refine ⟨_, rfl, ?_⟩
  refine W_run 2 [(2, .bool (!r1316))] w1317 (by kernel_rfl) ?_
  refine W_nil ?_
  refine N_then ?_
  refine G_ret ?_
  obtain rfl := Option.some.inj hm
  refine N_ret [.bool (!r1316)] (RVs_cons (RV_tmp (by kernel_rfl)) RVs_nil) ?_
  exact ⟨rfl, M1319.pick [] (by kernel_rfl)⟩
theorem c_slices_IndexFunc_91__i_AreOwners_1 (w : World) (x1308 : List Int) (p1310 : Option Addr) (c1311 : Nat) (h1312 : rdS Gx.encI w x1308 p1310 c1311) {r : Int} (hm : M.slices_IndexFunc_91__i_AreOwners_1 x1308 = some r) :
    Calls Try.prog 91 #[.slice p1310 x1308.length c1311, .func (.func 84) #[] #[]] w fun e w' => e = .returned (.int .i64 r) ∧ Mem [] w w' [] := by
  unfold M.slices_IndexFunc_91__i_AreOwners_1 at hm
  refine C_enter Try.func91 rfl (by kernel_rfl) ?_
  have M0 := Mem.refl [] w
  refine G_seq ?_
  refine G_region ?_
  refine W_run 1 [(0, .slice p1310 x1308.length c1311), (1, .func (.func 84) #[] #[])] w (by kernel_rfl) ?_
  refine W_nil ?_
  refine N_then ?_
  refine G_seq ?_
  refine G_seq ?_
  refine G_region ?_
  refine W_run 3 [(0, .slice p1310 x1308.length c1311), (1, .func (.func 84) #[] #[]), (7, .int .i64 (x1308.length : Int)), (8, .int .i64 0)] w (by kernel_rfl) ?_
  refine W_nil ?_
  refine N_then ?_
  obtain ⟨out1339, hw1340, hmo1341⟩ := gx_bind hm
  refine G_meet (fun a w' => ∃ (o1342 : Unit), out1339 = .inl o1342 ∧ Mem [] w w' [] ∧ Sat Try.f91.ntmps [] a) ?_ ?_
  · refine G_block ?_
    refine G_while (σ := Int) (ρ := (Unit) ⊕ (Int)) (fun s1332 a w' => Mem [] w w' [] ∧ Sat Try.f91.ntmps [(0, .slice p1310 x1308.length c1311), (1, .func (.func 84) #[] #[]), (7, .int .i64 (x1308.length : Int)), (8, .int .i64 s1332)] a) hw1340 (fun a ha => ⟨M0.pick [] (by kernel_rfl), ha.sub (by kernel_rfl)⟩) ?_
    clear hm
    intro s1332 x1333 hm hout1334 a1335 w1336 ⟨M1337, hS1338⟩
    refine G_use hS1338 ?_
    refine G_seq ?_
    refine G_region ?_
    refine W_run 1 [(0, .slice p1310 x1308.length c1311), (1, .func (.func 84) #[] #[]), (7, .int .i64 (x1308.length : Int)), (8, .int .i64 s1332), (9, .bool (decide (s1332 < (x1308.length : Int))))] w1336 (by kernel_rfl) ?_
    refine W_nil ?_
    refine N_then ?_
    refine G_seq ?_
    rcases gx_bif hm with ⟨hc1343, hm⟩ | ⟨hc1343, hm⟩
    · refine G_cond_t (b := (decide (s1332 < (x1308.length : Int)))) hc1343 (by kernel_rfl) ?_
      refine G_skip ?_
      refine N_then ?_
      refine G_seq ?_
      refine G_block ?_
      refine G_seq ?_
      refine G_region ?_
      refine W_run 2 [(0, .slice p1310 x1308.length c1311), (1, .func (.func 84) #[] #[]), (5, .int .i64 s1332), (7, .int .i64 (x1308.length : Int)), (8, .int .i64 s1332)] w1336 (by kernel_rfl) ?_
      refine W_nil ?_
      refine N_then ?_
      refine G_seq ?_
      refine G_region ?_
      refine W_run 3 [(0, .slice p1310 x1308.length c1311), (1, .func (.func 84) #[] #[]), (5, .int .i64 s1332), (7, .int .i64 (x1308.length : Int)), (8, .int .i64 s1332), (11, .func (.func 84) #[] #[]), (12, .slice p1310 x1308.length c1311), (13, .int .i64 s1332)] w1336 (by kernel_rfl) ?_
      obtain ⟨y1344, hy1344, hm⟩ := gx_bind hm
      refine W_val (elemP p1310 (s1332.toNat * 1)) w1336 (by kernel_rfl) (E_index (E := Gx.encI) _ _ _ x1308.length c1311 .i64 s1332 1 (y := y1344) rfl (by kernel_rfl) (by kernel_rfl) (by kernel_rfl) (h1312.mem0 M1337) rfl hy1344) ?_
      refine W_val (.int .i64 y1344) w1336 (by kernel_rfl) (E_loadE (E := Gx.encI) _ _ false 1 s1332 0 (s1332.toNat * 1) y1344 (.int .i64 y1344) rfl (by kernel_rfl) (by kernel_rfl) (by kernel_rfl) (h1312.mem0 M1337) hy1344 rfl) ?_
      obtain ⟨r1345, hr1345, hm⟩ := gx_bind hm
      refine W_call 84 #[.int .i64 y1344] (by kernel_rfl) (by kernel_rfl) ?_
      refine (c_i_AreOwners_1 w1336 y1344 hr1345).mono ?_
      rintro e_ w1346 ⟨rfl, K1347⟩
      have M1348 := M1337.call0 K1347
      refine ⟨_, rfl, ?_⟩
      refine W_nil ?_
      refine N_then ?_
      rcases gx_bif hm with ⟨hc1349, hm⟩ | ⟨hc1349, hm⟩
      · refine G_cond_t (b := r1345) hc1349 (by kernel_rfl) ?_
        refine G_seq ?_
        refine G_region ?_
        refine W_run 2 [(4, .int .i64 s1332)] w1346 (by kernel_rfl) ?_
        refine W_nil ?_
        refine N_then ?_
        refine G_ret ?_
        refine N_block_ret ?_
        refine N_then_ret ?_
        refine N_then_ret ?_
        obtain rfl := Option.some.inj hm
        obtain rfl := hout1334 _ rfl
        have hm := hmo1341; simp only [Sum.elim_inr] at hm
        refine N_block_ret ?_
        refine N_meet_ret ?_
        refine N_then_ret ?_
        obtain rfl := Option.some.inj hm
        refine N_ret [.int .i64 s1332] (RVs_cons (RV_tmp (by kernel_rfl)) RVs_nil) ?_
        exact ⟨rfl, M1348.pick [] (by kernel_rfl)⟩
      refine G_cond_f (b := r1345) hc1349 (by kernel_rfl) ?_
      refine G_skip ?_
      refine N_block ?_
      refine N_then ?_
      refine G_region ?_
      refine W_run 2 [(0, .slice p1310 x1308.length c1311), (1, .func (.func 84) #[] #[]), (7, .int .i64 (x1308.length : Int)), (8, .int .i64 (w64 (s1332 + 1)))] w1346 (by kernel_rfl) ?_
      refine W_nil ?_
      obtain rfl := Option.some.inj hm
      exact N_loop fun a ha => ⟨_, rfl, M1348.pick [] (by kernel_rfl), ha.sub (by kernel_rfl)⟩
    refine G_cond_f (b := (decide (s1332 < (x1308.length : Int)))) hc1343 (by kernel_rfl) ?_
    refine G_exit ?_
    refine N_then_exit ?_
    refine N_then_exit ?_
    refine N_block_eq ?_
    obtain rfl := Option.some.inj hm
    obtain rfl := hout1334 _ rfl
    exact N_meet fun a ha => ⟨_, rfl, M1337.pick [] (by kernel_rfl), ha.sub (by kernel_rfl)⟩
  intro a1350 w1351 ⟨o1342, hout_, M1352, hS1353⟩
  refine N_use hS1353 ?_
  subst hout_
  have hm := hmo1341; simp only [Sum.elim_inl] at hm
  refine N_then ?_
  refine G_seq ?_
  refine G_region ?_
  refine W_run 1 [(4, .int .i64 (-1))] w1351 (by kernel_rfl) ?_
  refine W_nil ?_
  refine N_then ?_
  refine G_ret ?_
  obtain rfl := Option.some.inj hm
  refine N_ret [.int .i64 (-1)] (RVs_cons (RV_tmp (by kernel_rfl)) RVs_nil) ?_
  exact ⟨rfl, M1352.pick [] (by kernel_rfl)⟩
theorem c_slices_ContainsFunc_83__i_AreOwners_1 (w : World) (x1303 : List Int) (p1305 : Option Addr) (c1306 : Nat) (h1307 : rdS Gx.encI w x1303 p1305 c1306) {r : Bool} (hm : M.slices_ContainsFunc_83__i_AreOwners_1 x1303 = some r) :
    Calls Try.prog 83 #[.slice p1305 x1303.length c1306, .func (.func 84) #[] #[]] w fun e w' => e = .returned (.bool r) ∧ Mem [] w w' [] := by
  unfold M.slices_ContainsFunc_83__i_AreOwners_1 at hm
  refine C_enter Try.func83 rfl (by kernel_rfl) ?_
  have M0 := Mem.refl [] w
  refine G_seq ?_
  refine G_region ?_
  refine W_run 1 [(0, .slice p1305 x1303.length c1306), (1, .func (.func 84) #[] #[])] w (by kernel_rfl) ?_
  refine W_nil ?_
  refine N_then ?_
  refine G_seq ?_
  refine G_region ?_
  refine W_run 2 [(5, .slice p1305 x1303.length c1306), (6, .func (.func 84) #[] #[])] w (by kernel_rfl) ?_
  obtain ⟨r1354, hr1354, hm⟩ := gx_bind hm
  refine W_call 91 #[.slice p1305 x1303.length c1306, .func (.func 84) #[] #[]] (by kernel_rfl) (by kernel_rfl) ?_
  refine (c_slices_IndexFunc_91__i_AreOwners_1 w x1303 p1305 c1306 (h1307.mem0 M0) hr1354).mono ?_
  rintro e_ w1355 ⟨rfl, K1356⟩
  have M1357 := M0.call0 K1356
  refine ⟨_, rfl, ?_⟩
  refine W_run 2 [(4, .bool (decide (r1354 ≥ 0)))] w1355 (by kernel_rfl) ?_
  refine W_nil ?_
  refine N_then ?_
  refine G_ret ?_
  obtain rfl := Option.some.inj hm
  refine N_ret [.bool (decide (r1354 ≥ 0))] (RVs_cons (RV_tmp (by kernel_rfl)) RVs_nil) ?_
  exact ⟨rfl, M1357.pick [] (by kernel_rfl)⟩
theorem c_i_AreOwners (w : World) (x1281 : List Int) (p1283 : Option Addr) (c1284 : Nat) (h1285 : rdS Gx.encI w x1281 p1283 c1284) {r : Bool} (hm : M.i_AreOwners x1281 = some r) :
    Calls Try.prog 49 #[.slice p1283 x1281.length c1284] w fun e w' => e = .returned (.bool r) ∧ Mem [] w w' [] := by
  unfold M.i_AreOwners at hm
  refine C_enter Try.func49 rfl (by kernel_rfl) ?_
  have M0 := Mem.refl [] w
  refine G_seq ?_
  refine G_region ?_
  refine W_run 1 [(0, .slice p1283 x1281.length c1284)] w (by kernel_rfl) ?_
  refine W_nil ?_
  refine N_then ?_
  refine G_seq ?_
  obtain ⟨o1362, ho1363, hm1364⟩ := gx_bind hm
  refine G_meet (fun a w' => Mem [] w w' [] ∧ Sat Try.f49.ntmps [(2, .bool o1362)] a) ?_ ?_
  · have hm := ho1363
    refine G_region ?_
    refine W_run 2 [(0, .slice p1283 x1281.length c1284), (4, .int .i64 (x1281.length : Int))] w (by kernel_rfl) ?_
    obtain ⟨r1365, hr1365, hm⟩ := gx_bind hm
    refine W_call 82 #[.int .i64 (x1281.length : Int), .int .i64 1, .int .i64 16] (by kernel_rfl) (by kernel_rfl) ?_
    refine (c_i_inside w (x1281.length : Int) 1 16 hr1365).mono ?_
    rintro e_ w1366 ⟨rfl, K1367⟩
    have M1368 := M0.call0 K1367
    refine ⟨_, rfl, ?_⟩
    refine W_run 1 [(0, .slice p1283 x1281.length c1284), (6, .bool r1365)] w1366 (by kernel_rfl) ?_
    rcases gx_bif hm with ⟨hc1369, hm⟩ | ⟨hc1369, hm⟩
    · refine W_known 6 true (by kernel_rfl) hc1369 ?_
      refine W_run 1 [(6, .bool true), (7, .slice p1283 x1281.length c1284)] w1366 (by kernel_rfl) ?_
      obtain ⟨r1370, hr1370, hm⟩ := gx_bind hm
      refine W_call 83 #[.slice p1283 x1281.length c1284, .func (.func 84) #[] #[]] (by kernel_rfl) (by kernel_rfl) ?_
      refine (c_slices_ContainsFunc_83__i_AreOwners_1 w1366 x1281 p1283 c1284 (h1285.mem0 M1368) hr1370).mono ?_
      rintro e_ w1371 ⟨rfl, K1372⟩
      have M1373 := M1368.call0 K1372
      refine ⟨_, rfl, ?_⟩
      refine W_run 3 [(2, .bool (!r1370))] w1371 (by kernel_rfl) ?_
      refine W_nil ?_
      obtain rfl := Option.some.inj hm
      exact N_meet fun a ha => ⟨M1373.pick [] (by kernel_rfl), ha.sub (by kernel_rfl)⟩
    refine W_known 6 false (by kernel_rfl) hc1369 ?_
    refine W_run 5 [(2, .bool false)] w1366 (by kernel_rfl) ?_
    refine W_nil ?_
    obtain rfl := Option.some.inj hm
    exact N_meet fun a ha => ⟨M1368.pick [] (by kernel_rfl), ha.sub (by kernel_rfl)⟩
  intro a1376 w1374 ⟨M1375, hS1377⟩
  refine N_use hS1377 ?_
  have hm := hm1364
  refine N_then ?_
  refine G_ret ?_
  obtain rfl := Option.some.inj hm
  refine N_ret [.bool o1362] (RVs_cons (RV_tmp (by kernel_rfl)) RVs_nil) ?_
  exact ⟨rfl, M1375.pick [] (by kernel_rfl)⟩
theorem c_i_isGuest (w : World) (x1406 : Int) {r : Bool} (hm : M.i_isGuest x1406 = some r) :
    Calls Try.prog 50 #[.int .i64 x1406] w fun e w' => e = .returned (.bool r) ∧ Mem [] w w' [] := by
  unfold M.i_isGuest at hm
  refine C_enter Try.func50 rfl (by kernel_rfl) ?_
  have M0 := Mem.refl [] w
  refine G_seq ?_
  refine G_region ?_
  refine W_run 1 [(0, .int .i64 x1406)] w (by kernel_rfl) ?_
  refine W_nil ?_
  refine N_then ?_
  refine G_seq ?_
  refine G_region ?_
  refine W_run 1 [(3, .int .i64 x1406)] w (by kernel_rfl) ?_
  obtain ⟨r1407, hr1407, hm⟩ := gx_bind hm
  refine W_call 82 #[.int .i64 x1406, .int .i64 1, .int .i64 4] (by kernel_rfl) (by kernel_rfl) ?_
  refine (c_i_inside w x1406 1 4 hr1407).mono ?_
  rintro e_ w1408 ⟨rfl, K1409⟩
  have M1410 := M0.call0 K1409
  refine ⟨_, rfl, ?_⟩
  refine W_run 1 [(2, .bool r1407)] w1408 (by kernel_rfl) ?_
  refine W_nil ?_
  refine N_then ?_
  refine G_ret ?_
  obtain rfl := Option.some.inj hm
  refine N_ret [.bool r1407] (RVs_cons (RV_tmp (by kernel_rfl)) RVs_nil) ?_
  exact ⟨rfl, M1410.pick [] (by kernel_rfl)⟩
theorem c_i_isGoal (w : World) (x1418 : Int) {r : Bool} (hm : M.i_isGoal x1418 = some r) :
    Calls Try.prog 51 #[.int .i64 x1418] w fun e w' => e = .returned (.bool r) ∧ Mem [] w w' [] := by
  unfold M.i_isGoal at hm
  refine C_enter Try.func51 rfl (by kernel_rfl) ?_
  have M0 := Mem.refl [] w
  refine G_seq ?_
  refine G_region ?_
  refine W_run 1 [(0, .int .i64 x1418)] w (by kernel_rfl) ?_
  refine W_nil ?_
  refine N_then ?_
  refine G_seq ?_
  refine G_region ?_
  refine W_run 1 [(3, .int .i64 x1418)] w (by kernel_rfl) ?_
  obtain ⟨r1419, hr1419, hm⟩ := gx_bind hm
  refine W_call 82 #[.int .i64 x1418, .int .i64 0, .int .i64 16] (by kernel_rfl) (by kernel_rfl) ?_
  refine (c_i_inside w x1418 0 16 hr1419).mono ?_
  rintro e_ w1420 ⟨rfl, K1421⟩
  have M1422 := M0.call0 K1421
  refine ⟨_, rfl, ?_⟩
  refine W_run 1 [(2, .bool r1419)] w1420 (by kernel_rfl) ?_
  refine W_nil ?_
  refine N_then ?_
  refine G_ret ?_
  obtain rfl := Option.some.inj hm
  refine N_ret [.bool r1419] (RVs_cons (RV_tmp (by kernel_rfl)) RVs_nil) ?_
  exact ⟨rfl, M1422.pick [] (by kernel_rfl)⟩
theorem c_i_ascending (w : World) (x1430 : List Int) (p1432 : Option Addr) (c1433 : Nat) (h1434 : rdS Gx.encI w x1430 p1432 c1433) (x1435 : Int) (x1436 : Int) {r : Bool} (hm : M.i_ascending x1430 x1435 x1436 = some r) :
    Calls Try.prog 52 #[.slice p1432 x1430.length c1433, .int .i64 x1435, .int .i64 x1436] w fun e w' => e = .returned (.bool r) ∧ Mem [] w w' [] := by
  unfold M.i_ascending at hm
  refine C_enter Try.func52 rfl (by kernel_rfl) ?_
  have M0 := Mem.refl [] w
  refine G_seq ?_
  refine G_region ?_
  refine W_run 1 [(0, .slice p1432 x1430.length c1433), (1, .int .i64 x1435), (2, .int .i64 x1436)] w (by kernel_rfl) ?_
  refine W_nil ?_
  refine N_then ?_
  refine G_seq ?_
  refine G_seq ?_
  refine G_region ?_
  refine W_run 3 [(0, .slice p1432 x1430.length c1433), (1, .int .i64 x1435), (2, .int .i64 x1436), (9, .slice p1432 x1430.length c1433), (10, .int .i64 (x1430.length : Int)), (11, .int .i64 0)] w (by kernel_rfl) ?_
  refine W_nil ?_
  refine N_then ?_
  obtain ⟨out1492, hw1493, hmo1494⟩ := gx_bind hm
  refine G_meet (fun a w' => ∃ (o1495 : Unit), out1492 = .inl o1495 ∧ Mem [] w w' [] ∧ Sat Try.f52.ntmps [] a) ?_ ?_
  · refine G_block ?_
    refine G_while (σ := Int) (ρ := (Unit) ⊕ (Bool)) (fun s1485 a w' => Mem [] w w' [] ∧ Sat Try.f52.ntmps [(0, .slice p1432 x1430.length c1433), (1, .int .i64 x1435), (2, .int .i64 x1436), (9, .slice p1432 x1430.length c1433), (10, .int .i64 (x1430.length : Int)), (11, .int .i64 s1485)] a) hw1493 (fun a ha => ⟨M0.pick [] (by kernel_rfl), ha.sub (by kernel_rfl)⟩) ?_
    clear hm
    intro s1485 x1486 hm hout1487 a1488 w1489 ⟨M1490, hS1491⟩
    refine G_use hS1491 ?_
    refine G_seq ?_
    refine G_region ?_
    refine W_run 1 [(0, .slice p1432 x1430.length c1433), (1, .int .i64 x1435), (2, .int .i64 x1436), (9, .slice p1432 x1430.length c1433), (10, .int .i64 (x1430.length : Int)), (11, .int .i64 s1485), (12, .bool (decide (s1485 < (x1430.length : Int))))] w1489 (by kernel_rfl) ?_
    refine W_nil ?_
    refine N_then ?_
    refine G_seq ?_
    rcases gx_bif hm with ⟨hc1496, hm⟩ | ⟨hc1496, hm⟩
    · refine G_cond_t (b := (decide (s1485 < (x1430.length : Int)))) hc1496 (by kernel_rfl) ?_
      refine G_skip ?_
      refine N_then ?_
      refine G_seq ?_
      refine G_block ?_
      refine G_seq ?_
      refine G_region ?_
      refine W_run 1 [(0, .slice p1432 x1430.length c1433), (1, .int .i64 x1435), (2, .int .i64 x1436), (9, .slice p1432 x1430.length c1433), (10, .int .i64 (x1430.length : Int)), (11, .int .i64 s1485), (13, .int .i64 s1485)] w1489 (by kernel_rfl) ?_
      obtain ⟨y1497, hy1497, hm⟩ := gx_bind hm
      refine W_val (elemP p1432 (s1485.toNat * 1)) w1489 (by kernel_rfl) (E_index (E := Gx.encI) _ _ _ x1430.length c1433 .i64 s1485 1 (y := y1497) rfl (by kernel_rfl) (by kernel_rfl) (by kernel_rfl) (h1434.mem0 M1490) rfl hy1497) ?_
      refine W_val (.int .i64 y1497) w1489 (by kernel_rfl) (E_loadE (E := Gx.encI) _ _ false 1 s1485 0 (s1485.toNat * 1) y1497 (.int .i64 y1497) rfl (by kernel_rfl) (by kernel_rfl) (by kernel_rfl) (h1434.mem0 M1490) hy1497 rfl) ?_
      refine W_run 2 [(0, .slice p1432 x1430.length c1433), (1, .int .i64 x1435), (2, .int .i64 x1436), (7, .int .i64 s1485), (8, .int .i64 y1497), (9, .slice p1432 x1430.length c1433), (10, .int .i64 (x1430.length : Int)), (11, .int .i64 s1485)] w1489 (by kernel_rfl) ?_
      refine W_nil ?_
      refine N_then ?_
      refine G_seq ?_
      obtain ⟨o1505, ho1506, hm1507⟩ := gx_bind hm
      refine G_meet (fun a w' => Mem [] w w' [] ∧ Sat Try.f52.ntmps [(0, .slice p1432 x1430.length c1433), (1, .int .i64 x1435), (2, .int .i64 x1436), (9, .slice p1432 x1430.length c1433), (10, .int .i64 (x1430.length : Int)), (11, .int .i64 s1485), (33, .bool o1505)] a) ?_ ?_
      · have hm := ho1506
        refine G_region ?_
        refine W_run 3 [(0, .slice p1432 x1430.length c1433), (1, .int .i64 x1435), (2, .int .i64 x1436), (7, .int .i64 s1485), (8, .int .i64 y1497), (9, .slice p1432 x1430.length c1433), (10, .int .i64 (x1430.length : Int)), (11, .int .i64 s1485), (16, .int .i64 y1497), (17, .int .i64 x1435), (18, .int .i64 x1436)] w1489 (by kernel_rfl) ?_
        obtain ⟨r1508, hr1508, hm⟩ := gx_bind hm
        refine W_call 82 #[.int .i64 y1497, .int .i64 x1435, .int .i64 x1436] (by kernel_rfl) (by kernel_rfl) ?_
        refine (c_i_inside w1489 y1497 x1435 x1436 hr1508).mono ?_
        rintro e_ w1509 ⟨rfl, K1510⟩
        have M1511 := M1490.call0 K1510
        refine ⟨_, rfl, ?_⟩
        refine W_run 2 [(0, .slice p1432 x1430.length c1433), (1, .int .i64 x1435), (2, .int .i64 x1436), (7, .int .i64 s1485), (8, .int .i64 y1497), (9, .slice p1432 x1430.length c1433), (10, .int .i64 (x1430.length : Int)), (11, .int .i64 s1485), (21, .bool (!r1508))] w1509 (by kernel_rfl) ?_
        rcases gx_bif hm with ⟨hc1512, hm⟩ | ⟨hc1512, hm⟩
        · refine W_known 21 true (by kernel_rfl) hc1512 ?_
          refine W_run 12 [(0, .slice p1432 x1430.length c1433), (1, .int .i64 x1435), (2, .int .i64 x1436), (9, .slice p1432 x1430.length c1433), (10, .int .i64 (x1430.length : Int)), (11, .int .i64 s1485), (33, .bool true)] w1509 (by kernel_rfl) ?_
          refine W_nil ?_
          obtain rfl := Option.some.inj hm
          exact N_meet fun a ha => ⟨M1511.pick [] (by kernel_rfl), ha.sub (by kernel_rfl)⟩
        refine W_known 21 false (by kernel_rfl) hc1512 ?_
        refine W_run 3 [(0, .slice p1432 x1430.length c1433), (1, .int .i64 x1435), (2, .int .i64 x1436), (7, .int .i64 s1485), (8, .int .i64 y1497), (9, .slice p1432 x1430.length c1433), (10, .int .i64 (x1430.length : Int)), (11, .int .i64 s1485), (21, .bool false), (24, .bool (decide (s1485 > 0)))] w1509 (by kernel_rfl) ?_
        rcases gx_bif hm with ⟨hc1513, hm⟩ | ⟨hc1513, hm⟩
        · refine W_known 24 true (by kernel_rfl) hc1513 ?_
          refine W_run 3 [(0, .slice p1432 x1430.length c1433), (1, .int .i64 x1435), (2, .int .i64 x1436), (8, .int .i64 y1497), (9, .slice p1432 x1430.length c1433), (10, .int .i64 (x1430.length : Int)), (11, .int .i64 s1485), (21, .bool false), (24, .bool true), (25, .slice p1432 x1430.length c1433), (27, .int .i64 (w64 (s1485 - 1)))] w1509 (by kernel_rfl) ?_
          obtain ⟨y1514, hy1514, hm⟩ := gx_bind hm
          refine W_val (elemP p1432 ((w64 (s1485 - 1)).toNat * 1)) w1509 (by kernel_rfl) (E_index (E := Gx.encI) _ _ _ x1430.length c1433 .i64 (w64 (s1485 - 1)) 1 (y := y1514) rfl (by kernel_rfl) (by kernel_rfl) (by kernel_rfl) (h1434.mem0 M1511) rfl hy1514) ?_
          refine W_val (.int .i64 y1514) w1509 (by kernel_rfl) (E_loadE (E := Gx.encI) _ _ false 1 (w64 (s1485 - 1)) 0 ((w64 (s1485 - 1)).toNat * 1) y1514 (.int .i64 y1514) rfl (by kernel_rfl) (by kernel_rfl) (by kernel_rfl) (h1434.mem0 M1511) hy1514 rfl) ?_
          refine W_run 4 [(0, .slice p1432 x1430.length c1433), (1, .int .i64 x1435), (2, .int .i64 x1436), (9, .slice p1432 x1430.length c1433), (10, .int .i64 (x1430.length : Int)), (11, .int .i64 s1485), (33, .bool (decide (y1514 ≥ y1497)))] w1509 (by kernel_rfl) ?_
          refine W_nil ?_
          obtain rfl := Option.some.inj hm
          exact N_meet fun a ha => ⟨M1511.pick [] (by kernel_rfl), ha.sub (by kernel_rfl)⟩
        refine W_known 24 false (by kernel_rfl) hc1513 ?_
        refine W_run 9 [(0, .slice p1432 x1430.length c1433), (1, .int .i64 x1435), (2, .int .i64 x1436), (9, .slice p1432 x1430.length c1433), (10, .int .i64 (x1430.length : Int)), (11, .int .i64 s1485), (33, .bool false)] w1509 (by kernel_rfl) ?_
        refine W_nil ?_
        obtain rfl := Option.some.inj hm
        exact N_meet fun a ha => ⟨M1511.pick [] (by kernel_rfl), ha.sub (by kernel_rfl)⟩
      intro a1517 w1515 ⟨M1516, hS1518⟩
      refine N_use hS1518 ?_
      have hm := hm1507
      refine N_then ?_
      rcases gx_bif hm with ⟨hc1519, hm⟩ | ⟨hc1519, hm⟩
      · refine G_cond_t (b := o1505) hc1519 (by kernel_rfl) ?_
        refine G_seq ?_
        refine G_region ?_
        refine W_run 1 [(6, .bool false)] w1515 (by kernel_rfl) ?_
        refine W_nil ?_
        refine N_then ?_
        refine G_ret ?_
        refine N_block_ret ?_
        refine N_then_ret ?_
        refine N_then_ret ?_
        obtain rfl := Option.some.inj hm
        obtain rfl := hout1487 _ rfl
        have hm := hmo1494; simp only [Sum.elim_inr] at hm
        refine N_block_ret ?_
        refine N_meet_ret ?_
        refine N_then_ret ?_
        obtain rfl := Option.some.inj hm
        refine N_ret [.bool false] (RVs_cons (RV_tmp (by kernel_rfl)) RVs_nil) ?_
        exact ⟨rfl, M1516.pick [] (by kernel_rfl)⟩
      refine G_cond_f (b := o1505) hc1519 (by kernel_rfl) ?_
      refine G_skip ?_
      refine N_block ?_
      refine N_then ?_
      refine G_region ?_
      refine W_run 2 [(0, .slice p1432 x1430.length c1433), (1, .int .i64 x1435), (2, .int .i64 x1436), (9, .slice p1432 x1430.length c1433), (10, .int .i64 (x1430.length : Int)), (11, .int .i64 (w64 (s1485 + 1)))] w1515 (by kernel_rfl) ?_
      refine W_nil ?_
      obtain rfl := Option.some.inj hm
      exact N_loop fun a ha => ⟨_, rfl, M1516.pick [] (by kernel_rfl), ha.sub (by kernel_rfl)⟩
    refine G_cond_f (b := (decide (s1485 < (x1430.length : Int)))) hc1496 (by kernel_rfl) ?_
    refine G_exit ?_
    refine N_then_exit ?_
    refine N_then_exit ?_
    refine N_block_eq ?_
    obtain rfl := Option.some.inj hm
    obtain rfl := hout1487 _ rfl
    exact N_meet fun a ha => ⟨_, rfl, M1490.pick [] (by kernel_rfl), ha.sub (by kernel_rfl)⟩
  intro a1520 w1521 ⟨o1495, hout_, M1522, hS1523⟩
  refine N_use hS1523 ?_
  subst hout_
  have hm := hmo1494; simp only [Sum.elim_inl] at hm
  refine N_then ?_
  refine G_seq ?_
  refine G_region ?_
  refine W_run 1 [(6, .bool true)] w1521 (by kernel_rfl) ?_
  refine W_nil ?_
  refine N_then ?_
  refine G_ret ?_
  obtain rfl := Option.some.inj hm
  refine N_ret [.bool true] (RVs_cons (RV_tmp (by kernel_rfl)) RVs_nil) ?_
  exact ⟨rfl, M1522.pick [] (by kernel_rfl)⟩
theorem c_slices_Index_63 (w : World) (x1588 : List Int) (p1590 : Option Addr) (c1591 : Nat) (h1592 : rdS Gx.encI w x1588 p1590 c1591) (x1593 : Int) {r : Int} (hm : M.slices_Index_63 x1588 x1593 = some r) :
    Calls Try.prog 63 #[.slice p1590 x1588.length c1591, .int .i64 x1593] w fun e w' => e = .returned (.int .i64 r) ∧ Mem [] w w' [] := by
  unfold M.slices_Index_63 at hm
  refine C_enter Try.func63 rfl (by kernel_rfl) ?_
  have M0 := Mem.refl [] w
  refine G_seq ?_
  refine G_region ?_
  refine W_run 1 [(0, .slice p1590 x1588.length c1591), (1, .int .i64 x1593)] w (by kernel_rfl) ?_
  refine W_nil ?_
  refine N_then ?_
  refine G_seq ?_
  refine G_seq ?_
  refine G_region ?_
  refine W_run 3 [(0, .slice p1590 x1588.length c1591), (1, .int .i64 x1593), (7, .int .i64 (x1588.length : Int)), (8, .int .i64 0)] w (by kernel_rfl) ?_
  refine W_nil ?_
  refine N_then ?_
  obtain ⟨out1607, hw1608, hmo1609⟩ := gx_bind hm
  refine G_meet (fun a w' => ∃ (o1610 : Unit), out1607 = .inl o1610 ∧ Mem [] w w' [] ∧ Sat Try.f63.ntmps [] a) ?_ ?_
  · refine G_block ?_
    refine G_while (σ := Int) (ρ := (Unit) ⊕ (Int)) (fun s1600 a w' => Mem [] w w' [] ∧ Sat Try.f63.ntmps [(0, .slice p1590 x1588.length c1591), (1, .int .i64 x1593), (7, .int .i64 (x1588.length : Int)), (8, .int .i64 s1600)] a) hw1608 (fun a ha => ⟨M0.pick [] (by kernel_rfl), ha.sub (by kernel_rfl)⟩) ?_
    clear hm
    intro s1600 x1601 hm hout1602 a1603 w1604 ⟨M1605, hS1606⟩
    refine G_use hS1606 ?_
    refine G_seq ?_
    refine G_region ?_
    refine W_run 1 [(0, .slice p1590 x1588.length c1591), (1, .int .i64 x1593), (7, .int .i64 (x1588.length : Int)), (8, .int .i64 s1600), (9, .bool (decide (s1600 < (x1588.length : Int))))] w1604 (by kernel_rfl) ?_
    refine W_nil ?_
    refine N_then ?_
    refine G_seq ?_
    rcases gx_bif hm with ⟨hc1611, hm⟩ | ⟨hc1611, hm⟩
    · refine G_cond_t (b := (decide (s1600 < (x1588.length : Int)))) hc1611 (by kernel_rfl) ?_
      refine G_skip ?_
      refine N_then ?_
      refine G_seq ?_
      refine G_block ?_
      refine G_seq ?_
      refine G_region ?_
      refine W_run 2 [(0, .slice p1590 x1588.length c1591), (1, .int .i64 x1593), (5, .int .i64 s1600), (7, .int .i64 (x1588.length : Int)), (8, .int .i64 s1600)] w1604 (by kernel_rfl) ?_
      refine W_nil ?_
      refine N_then ?_
      refine G_seq ?_
      refine G_region ?_
      refine W_run 3 [(0, .slice p1590 x1588.length c1591), (1, .int .i64 x1593), (5, .int .i64 s1600), (7, .int .i64 (x1588.length : Int)), (8, .int .i64 s1600), (11, .int .i64 x1593), (12, .slice p1590 x1588.length c1591), (13, .int .i64 s1600)] w1604 (by kernel_rfl) ?_
      obtain ⟨y1612, hy1612, hm⟩ := gx_bind hm
      refine W_val (elemP p1590 (s1600.toNat * 1)) w1604 (by kernel_rfl) (E_index (E := Gx.encI) _ _ _ x1588.length c1591 .i64 s1600 1 (y := y1612) rfl (by kernel_rfl) (by kernel_rfl) (by kernel_rfl) (h1592.mem0 M1605) rfl hy1612) ?_
      refine W_val (.int .i64 y1612) w1604 (by kernel_rfl) (E_loadE (E := Gx.encI) _ _ false 1 s1600 0 (s1600.toNat * 1) y1612 (.int .i64 y1612) rfl (by kernel_rfl) (by kernel_rfl) (by kernel_rfl) (h1592.mem0 M1605) hy1612 rfl) ?_
      refine W_run 1 [(0, .slice p1590 x1588.length c1591), (1, .int .i64 x1593), (5, .int .i64 s1600), (7, .int .i64 (x1588.length : Int)), (8, .int .i64 s1600), (16, .bool (x1593 == y1612))] w1604 (by kernel_rfl) ?_
      refine W_nil ?_
      refine N_then ?_
      rcases gx_bif hm with ⟨hc1613, hm⟩ | ⟨hc1613, hm⟩
      · refine G_cond_t (b := (x1593 == y1612)) hc1613 (by kernel_rfl) ?_
        refine G_seq ?_
        refine G_region ?_
        refine W_run 2 [(4, .int .i64 s1600)] w1604 (by kernel_rfl) ?_
        refine W_nil ?_
        refine N_then ?_
        refine G_ret ?_
        refine N_block_ret ?_
        refine N_then_ret ?_
        refine N_then_ret ?_
        obtain rfl := Option.some.inj hm
        obtain rfl := hout1602 _ rfl
        have hm := hmo1609; simp only [Sum.elim_inr] at hm
        refine N_block_ret ?_
        refine N_meet_ret ?_
        refine N_then_ret ?_
        obtain rfl := Option.some.inj hm
        refine N_ret [.int .i64 s1600] (RVs_cons (RV_tmp (by kernel_rfl)) RVs_nil) ?_
        exact ⟨rfl, M1605.pick [] (by kernel_rfl)⟩
      refine G_cond_f (b := (x1593 == y1612)) hc1613 (by kernel_rfl) ?_
      refine G_skip ?_
      refine N_block ?_
      refine N_then ?_
      refine G_region ?_
      refine W_run 2 [(0, .slice p1590 x1588.length c1591), (1, .int .i64 x1593), (7, .int .i64 (x1588.length : Int)), (8, .int .i64 (w64 (s1600 + 1)))] w1604 (by kernel_rfl) ?_
      refine W_nil ?_
      obtain rfl := Option.some.inj hm
      exact N_loop fun a ha => ⟨_, rfl, M1605.pick [] (by kernel_rfl), ha.sub (by kernel_rfl)⟩
    refine G_cond_f (b := (decide (s1600 < (x1588.length : Int)))) hc1611 (by kernel_rfl) ?_
    refine G_exit ?_
    refine N_then_exit ?_
    refine N_then_exit ?_
    refine N_block_eq ?_
    obtain rfl := Option.some.inj hm
    obtain rfl := hout1602 _ rfl
    exact N_meet fun a ha => ⟨_, rfl, M1605.pick [] (by kernel_rfl), ha.sub (by kernel_rfl)⟩
  intro a1614 w1615 ⟨o1610, hout_, M1616, hS1617⟩
  refine N_use hS1617 ?_
  subst hout_
  have hm := hmo1609; simp only [Sum.elim_inl] at hm
  refine N_then ?_
  refine G_seq ?_
  refine G_region ?_
  refine W_run 1 [(4, .int .i64 (-1))] w1615 (by kernel_rfl) ?_
  refine W_nil ?_
  refine N_then ?_
  refine G_ret ?_
  obtain rfl := Option.some.inj hm
  refine N_ret [.int .i64 (-1)] (RVs_cons (RV_tmp (by kernel_rfl)) RVs_nil) ?_
  exact ⟨rfl, M1616.pick [] (by kernel_rfl)⟩
theorem c_slices_Contains_53 (w : World) (x1582 : List Int) (p1584 : Option Addr) (c1585 : Nat) (h1586 : rdS Gx.encI w x1582 p1584 c1585) (x1587 : Int) {r : Bool} (hm : M.slices_Contains_53 x1582 x1587 = some r) :
    Calls Try.prog 53 #[.slice p1584 x1582.length c1585, .int .i64 x1587] w fun e w' => e = .returned (.bool r) ∧ Mem [] w w' [] := by
  unfold M.slices_Contains_53 at hm
  refine C_enter Try.func53 rfl (by kernel_rfl) ?_
  have M0 := Mem.refl [] w
  refine G_seq ?_
  refine G_region ?_
  refine W_run 1 [(0, .slice p1584 x1582.length c1585), (1, .int .i64 x1587)] w (by kernel_rfl) ?_
  refine W_nil ?_
  refine N_then ?_
  refine G_seq ?_
  refine G_region ?_
  refine W_run 2 [(5, .slice p1584 x1582.length c1585), (6, .int .i64 x1587)] w (by kernel_rfl) ?_
  obtain ⟨r1618, hr1618, hm⟩ := gx_bind hm
  refine W_call 63 #[.slice p1584 x1582.length c1585, .int .i64 x1587] (by kernel_rfl) (by kernel_rfl) ?_
  refine (c_slices_Index_63 w x1582 p1584 c1585 (h1586.mem0 M0) x1587 hr1618).mono ?_
  rintro e_ w1619 ⟨rfl, K1620⟩
  have M1621 := M0.call0 K1620
  refine ⟨_, rfl, ?_⟩
  refine W_run 2 [(4, .bool (decide (r1618 ≥ 0)))] w1619 (by kernel_rfl) ?_
  refine W_nil ?_
  refine N_then ?_
  refine G_ret ?_
  obtain rfl := Option.some.inj hm
  refine N_ret [.bool (decide (r1618 ≥ 0))] (RVs_cons (RV_tmp (by kernel_rfl)) RVs_nil) ?_
  exact ⟨rfl, M1621.pick [] (by kernel_rfl)⟩
theorem c_i_AreBalloons (w : World) (x1271 : List Int) (p1273 : Option Addr) (c1274 : Nat) (h1275 : rdS Gx.encI w x1271 p1273 c1274) (x1276 : List Balloon) (p1278 : Option Addr) (c1279 : Nat) (h1280 : rdD deepBalloon w x1276 p1278 c1279) {r : Bool} (hm : M.i_AreBalloons x1271 x1276 = some r) :
    Calls Try.prog 17 #[.slice p1273 x1271.length c1274, .slice p1278 x1276.length c1279] w fun e w' => e = .returned (.bool r) ∧ Mem [] w w' [] := by
  unfold M.i_AreBalloons at hm
  refine C_enter Try.func17 rfl (by kernel_rfl) ?_
  have M0 := Mem.refl [] w
  refine G_seq ?_
  refine G_region ?_
  refine W_run 1 [(0, .slice p1273 x1271.length c1274), (1, .slice p1278 x1276.length c1279)] w (by kernel_rfl) ?_
  refine W_nil ?_
  refine N_then ?_
  refine G_seq ?_
  refine G_seq ?_
  refine G_region ?_
  refine W_run 1 [(0, .slice p1273 x1271.length c1274), (1, .slice p1278 x1276.length c1279), (10, .slice p1273 x1271.length c1274)] w (by kernel_rfl) ?_
  obtain ⟨r1378, hr1378, hm⟩ := gx_bind hm
  refine W_call 49 #[.slice p1273 x1271.length c1274] (by kernel_rfl) (by kernel_rfl) ?_
  refine (c_i_AreOwners w x1271 p1273 c1274 (h1275.mem0 M0) hr1378).mono ?_
  rintro e_ w1379 ⟨rfl, K1380⟩
  have M1381 := M0.call0 K1380
  refine ⟨_, rfl, ?_⟩
  refine W_run 1 [(0, .slice p1273 x1271.length c1274), (1, .slice p1278 x1276.length c1279), (12, .bool (!r1378))] w1379 (by kernel_rfl) ?_
  refine W_nil ?_
  refine N_then ?_
  rcases gx_bif hm with ⟨hc1382, hm⟩ | ⟨hc1382, hm⟩
  · refine G_cond_t (b := (!r1378)) hc1382 (by kernel_rfl) ?_
    refine G_seq ?_
    refine G_region ?_
    refine W_run 1 [(4, .bool false)] w1379 (by kernel_rfl) ?_
    refine W_nil ?_
    refine N_then ?_
    refine G_ret ?_
    refine N_then_ret ?_
    obtain rfl := Option.some.inj hm
    refine N_ret [.bool false] (RVs_cons (RV_tmp (by kernel_rfl)) RVs_nil) ?_
    exact ⟨rfl, M1381.pick [] (by kernel_rfl)⟩
  refine G_cond_f (b := (!r1378)) hc1382 (by kernel_rfl) ?_
  refine G_skip ?_
  refine N_then ?_
  refine G_seq ?_
  refine G_region ?_
  refine W_lit (E := Gx.encI) ([] : List Int) 0 [] 3 M1381 (by kernel_rfl) (by kernel_rfl) (by kernel_rfl) (by kernel_rfl) (by kernel_rfl) ?_
  intro p1383 c1384 sg1385 w1386 ho1387 M1388
  refine W_run 1 [(0, .slice p1273 x1271.length c1274), (1, .slice p1278 x1276.length c1279), (5, .slice p1383 ([] : List Int).length c1384)] w1386 (by kernel_rfl) ?_
  refine W_nil ?_
  refine N_then ?_
  refine G_seq ?_
  refine G_seq ?_
  refine G_region ?_
  refine W_run 3 [(0, .slice p1273 x1271.length c1274), (1, .slice p1278 x1276.length c1279), (5, .slice p1383 ([] : List Int).length c1384), (14, .slice p1278 x1276.length c1279), (15, .int .i64 (x1276.length : Int)), (16, .int .i64 0)] w1386 (by kernel_rfl) ?_
  refine W_nil ?_
  refine N_then ?_
  obtain ⟨out1996, hw1997, hmo1998⟩ := gx_bind hm
  refine G_meet (fun a w' => ∃ (o2004 : Unit), out1996 = .inl o2004 ∧ Mem [] w w' [] ∧ Sat Try.f17.ntmps [] a) ?_ ?_
  · refine G_block ?_
    refine G_while (σ := List Int × Int) (ρ := (Unit) ⊕ (Bool)) (fun s1989 a w' => ∃ (p1999 : Option Addr), ∃ (c2000 : Nat), ∃ (sg2001 : Seg), ownS Gx.encI s1989.1 p1999 c2000 sg2001 ∧ Mem [] w w' [sg2001] ∧ Sat Try.f17.ntmps [(0, .slice p1273 x1271.length c1274), (1, .slice p1278 x1276.length c1279), (5, .slice p1999 s1989.1.length c2000), (14, .slice p1278 x1276.length c1279), (15, .int .i64 (x1276.length : Int)), (16, .int .i64 s1989.2)] a) hw1997 (fun a ha => ⟨p1383, c1384, sg1385, ho1387, M1388.pick [0] (by kernel_rfl), ha.sub (by kernel_rfl)⟩) ?_
    clear hm
    intro s1989 x1990 hm hout1991 a1992 w1993 ⟨p1999, c2000, sg2001, ho2002, M1994, hS1995⟩
    refine G_use hS1995 ?_
    refine G_seq ?_
    refine G_region ?_
    refine W_run 1 [(0, .slice p1273 x1271.length c1274), (1, .slice p1278 x1276.length c1279), (5, .slice p1999 s1989.1.length c2000), (14, .slice p1278 x1276.length c1279), (15, .int .i64 (x1276.length : Int)), (16, .int .i64 s1989.2), (17, .bool (decide (s1989.2 < (x1276.length : Int))))] w1993 (by kernel_rfl) ?_
    refine W_nil ?_
    refine N_then ?_
    refine G_seq ?_
    rcases gx_bif hm with ⟨hc2005, hm⟩ | ⟨hc2005, hm⟩
    · refine G_cond_t (b := (decide (s1989.2 < (x1276.length : Int)))) hc2005 (by kernel_rfl) ?_
      refine G_skip ?_
      refine N_then ?_
      refine G_seq ?_
      refine G_block ?_
      refine G_seq ?_
      refine G_region ?_
      refine W_run 1 [(0, .slice p1273 x1271.length c1274), (1, .slice p1278 x1276.length c1279), (5, .slice p1999 s1989.1.length c2000), (14, .slice p1278 x1276.length c1279), (15, .int .i64 (x1276.length : Int)), (16, .int .i64 s1989.2), (18, .int .i64 s1989.2)] w1993 (by kernel_rfl) ?_
      obtain ⟨y2006, hy2006, hm⟩ := gx_bind hm
      obtain ⟨zs2007, hz2008, hr2009, hi2010⟩ := id h1280
      obtain ⟨g2011, hg2012⟩ := gxIdx_fst hz2008 hy2006
      refine W_val (elemP p1278 (s1989.2.toNat * 3)) w1993 (by kernel_rfl) (E_index (E := deepBalloon.E) _ _ _ x1276.length c1279 .i64 s1989.2 3 (y := (y2006, g2011)) rfl (by kernel_rfl) (by kernel_rfl) (by kernel_rfl) (hr2009.mem0 M1994) (len_fst hz2008) hg2012) ?_
      refine W_val (.agg #[.int .i64 y2006.Guest, .int .i64 y2006.Goal, .slice ((g2011 0).1) y2006.Gave.length ((g2011 0).2)]) w1993 (by kernel_rfl) (E_loadE (E := deepBalloon.E) _ _ true 3 s1989.2 0 (s1989.2.toNat * 3) (y2006, g2011) (.agg #[.int .i64 y2006.Guest, .int .i64 y2006.Goal, .slice ((g2011 0).1) y2006.Gave.length ((g2011 0).2)]) rfl (by kernel_rfl) (by kernel_rfl) (by kernel_rfl) (hr2009.mem0 M1994) hg2012 rfl) ?_
      refine W_new (fun b => .pointer (some ⟨b, 0, none⟩)) (.cells ⟨[.int .i64 0, .int .i64 0, .slice none 0 0]⟩ 50 (0, 0)) M1994 rfl (by kernel_rfl) (by kernel_rfl) ?_
      intro b2016 w2017 M2018
      refine W_run 1 [(0, .slice p1273 x1271.length c1274), (1, .slice p1278 x1276.length c1279), (5, .slice p1999 s1989.1.length c2000), (6, .int .i64 s1989.2), (7, .pointer (some ⟨b2016, 0, none⟩)), (14, .slice p1278 x1276.length c1279), (15, .int .i64 (x1276.length : Int)), (16, .int .i64 s1989.2), (20, .agg #[.int .i64 y2006.Guest, .int .i64 y2006.Goal, .slice ((g2011 0).1) y2006.Gave.length ((g2011 0).2)])] w2017 (by kernel_rfl) ?_
      refine W_store _ _ _ true 3 b2016 0 [.int .i64 0, .int .i64 0, .slice none 0 0] 50 (.agg #[.int .i64 y2006.Guest, .int .i64 y2006.Goal, .slice ((g2011 0).1) y2006.Gave.length ((g2011 0).2)]) 1 [.int .i64 y2006.Guest, .int .i64 y2006.Goal, .slice ((g2011 0).1) y2006.Gave.length ((g2011 0).2)] M2018 (by kernel_rfl) rfl (by kernel_rfl) (by kernel_rfl) (by kernel_rfl) (by kernel_rfl) (by kernel_rfl) (by kernel_rfl) (by kernel_rfl) (by kernel_rfl) ?_
      intro w2019 M2020
      refine W_nil ?_
      refine N_then ?_
      refine G_seq ?_
      refine G_seq ?_
      obtain ⟨o2051, ho2052, hm2053⟩ := gx_bind hm
      refine G_meet (fun a w' => Mem [] w w' [sg2001, [(b2016, .cells ⟨[.int .i64 y2006.Guest, .int .i64 y2006.Goal, .slice ((g2011 0).1) y2006.Gave.length ((g2011 0).2)]⟩ 50 (0, 0))]] ∧ Sat Try.f17.ntmps [(0, .slice p1273 x1271.length c1274), (1, .slice p1278 x1276.length c1279), (5, .slice p1999 s1989.1.length c2000), (7, .pointer (some ⟨b2016, 0, none⟩)), (14, .slice p1278 x1276.length c1279), (15, .int .i64 (x1276.length : Int)), (16, .int .i64 s1989.2), (54, .bool o2051)] a) ?_ ?_
      · have hm := ho2052
        refine G_quiet (by kernel_rfl) (by kernel_rfl) M2020 ?_
        refine Z_runs [.pointer (some ⟨b2016, 0, none⟩)] [(0, .slice p1273 x1271.length c1274), (1, .slice p1278 x1276.length c1279), (5, .slice p1999 s1989.1.length c2000), (6, .int .i64 s1989.2), (7, .pointer (some ⟨b2016, 0, none⟩)), (14, .slice p1278 x1276.length c1279), (15, .int .i64 (x1276.length : Int)), (16, .int .i64 s1989.2), (21, .pointer (some ⟨b2016, 0, none⟩))] (fun w_ => by kernel_rfl) (by kernel_rfl) ?_
        refine Z_val (.int .i64 y2006.Guest) (by kernel_rfl) (fun w_ M_ => (E_load (e := 50) (fr := (0, 0)) _ _ false 1 b2016 0 [.int .i64 y2006.Guest, .int .i64 y2006.Goal, .slice ((g2011 0).1) y2006.Gave.length ((g2011 0).2)] (.int .i64 y2006.Guest) rfl (by kernel_rfl) (by kernel_rfl) (by kernel_rfl) (M_.blk 1 (b := b2016) (o := .cells ⟨[.int .i64 y2006.Guest, .int .i64 y2006.Goal, .slice ((g2011 0).1) y2006.Gave.length ((g2011 0).2)]⟩ 50 (0, 0)) (by kernel_rfl)))) ?_
        obtain ⟨r2054, hr2054, hm⟩ := gx_bind hm
        refine Z_call 50 #[.int .i64 y2006.Guest] (.bool r2054) (by kernel_rfl) (fun w_ => by kernel_rfl) (fun w_ M_ => (c_i_isGuest w_ y2006.Guest hr2054).mono fun e w2_ h_ => ⟨h_.1, M_.call0 h_.2⟩) ?_
        refine Z_runs [.bool (!r2054), .bool (!r2054)] [(0, .slice p1273 x1271.length c1274), (1, .slice p1278 x1276.length c1279), (5, .slice p1999 s1989.1.length c2000), (6, .int .i64 s1989.2), (7, .pointer (some ⟨b2016, 0, none⟩)), (14, .slice p1278 x1276.length c1279), (15, .int .i64 (x1276.length : Int)), (16, .int .i64 s1989.2), (25, .bool (!r2054))] (fun w_ => by kernel_rfl) (by kernel_rfl) ?_
        rcases gx_bif hm with ⟨hc2058, hm⟩ | ⟨hc2058, hm⟩
        · refine Z_known 25 true (by kernel_rfl) hc2058 ?_
          refine Z_runs [undef, undef, undef, undef, .bool true, .bool true, undef, undef, undef, undef, undef, undef, undef, .bool true, .bool true, undef, undef, undef, undef, undef, undef, undef, undef, undef, undef, undef, undef, undef, .bool true] [(0, .slice p1273 x1271.length c1274), (1, .slice p1278 x1276.length c1279), (5, .slice p1999 s1989.1.length c2000), (7, .pointer (some ⟨b2016, 0, none⟩)), (14, .slice p1278 x1276.length c1279), (15, .int .i64 (x1276.length : Int)), (16, .int .i64 s1989.2), (54, .bool true)] (fun w_ => by kernel_rfl) (by kernel_rfl) ?_
          refine Z_end fun w2059 M2060 => ?_
          obtain rfl := Option.some.inj hm
          exact N_meet fun a ha => ⟨M2060.pick [0, 1] (by kernel_rfl), ha.sub (by kernel_rfl)⟩
        refine Z_known 25 false (by kernel_rfl) hc2058 ?_
        refine Z_runs [.pointer (some ⟨b2016, 1, none⟩)] [(0, .slice p1273 x1271.length c1274), (1, .slice p1278 x1276.length c1279), (5, .slice p1999 s1989.1.length c2000), (6, .int .i64 s1989.2), (7, .pointer (some ⟨b2016, 0, none⟩)), (14, .slice p1278 x1276.length c1279), (15, .int .i64 (x1276.length : Int)), (16, .int .i64 s1989.2), (25, .bool false), (26, .pointer (some ⟨b2016, 1, none⟩))] (fun w_ => by kernel_rfl) (by kernel_rfl) ?_
        refine Z_val (.int .i64 y2006.Goal) (by kernel_rfl) (fun w_ M_ => (E_load (e := 50) (fr := (0, 0)) _ _ false 1 b2016 1 [.int .i64 y2006.Guest, .int .i64 y2006.Goal, .slice ((g2011 0).1) y2006.Gave.length ((g2011 0).2)] (.int .i64 y2006.Goal) rfl (by kernel_rfl) (by kernel_rfl) (by kernel_rfl) (M_.blk 1 (b := b2016) (o := .cells ⟨[.int .i64 y2006.Guest, .int .i64 y2006.Goal, .slice ((g2011 0).1) y2006.Gave.length ((g2011 0).2)]⟩ 50 (0, 0)) (by kernel_rfl)))) ?_
        obtain ⟨r2061, hr2061, hm⟩ := gx_bind hm
        refine Z_call 51 #[.int .i64 y2006.Goal] (.bool r2061) (by kernel_rfl) (fun w_ => by kernel_rfl) (fun w_ M_ => (c_i_isGoal w_ y2006.Goal hr2061).mono fun e w2_ h_ => ⟨h_.1, M_.call0 h_.2⟩) ?_
        refine Z_runs [.bool (!r2061), .bool (!r2061), .bool (!r2061)] [(0, .slice p1273 x1271.length c1274), (1, .slice p1278 x1276.length c1279), (5, .slice p1999 s1989.1.length c2000), (6, .int .i64 s1989.2), (7, .pointer (some ⟨b2016, 0, none⟩)), (14, .slice p1278 x1276.length c1279), (15, .int .i64 (x1276.length : Int)), (16, .int .i64 s1989.2), (31, .bool (!r2061))] (fun w_ => by kernel_rfl) (by kernel_rfl) ?_
        rcases gx_bif hm with ⟨hc2065, hm⟩ | ⟨hc2065, hm⟩
        · refine Z_known 31 true (by kernel_rfl) hc2065 ?_
          refine Z_runs [undef, undef, undef, undef, undef, undef, undef, .bool true, .bool true, undef, undef, undef, undef, undef, undef, undef, undef, undef, undef, undef, undef, undef, .bool true] [(0, .slice p1273 x1271.length c1274), (1, .slice p1278 x1276.length c1279), (5, .slice p1999 s1989.1.length c2000), (7, .pointer (some ⟨b2016, 0, none⟩)), (14, .slice p1278 x1276.length c1279), (15, .int .i64 (x1276.length : Int)), (16, .int .i64 s1989.2), (54, .bool true)] (fun w_ => by kernel_rfl) (by kernel_rfl) ?_
          refine Z_end fun w2066 M2067 => ?_
          obtain rfl := Option.some.inj hm
          exact N_meet fun a ha => ⟨M2067.pick [0, 1] (by kernel_rfl), ha.sub (by kernel_rfl)⟩
        refine Z_known 31 false (by kernel_rfl) hc2065 ?_
        refine Z_runs [.pointer (some ⟨b2016, 2, none⟩)] [(0, .slice p1273 x1271.length c1274), (1, .slice p1278 x1276.length c1279), (5, .slice p1999 s1989.1.length c2000), (6, .int .i64 s1989.2), (7, .pointer (some ⟨b2016, 0, none⟩)), (14, .slice p1278 x1276.length c1279), (15, .int .i64 (x1276.length : Int)), (16, .int .i64 s1989.2), (31, .bool false), (32, .pointer (some ⟨b2016, 2, none⟩))] (fun w_ => by kernel_rfl) (by kernel_rfl) ?_
        refine Z_val (.slice ((g2011 0).1) y2006.Gave.length ((g2011 0).2)) (by kernel_rfl) (fun w_ M_ => (E_load (e := 50) (fr := (0, 0)) _ _ false 1 b2016 2 [.int .i64 y2006.Guest, .int .i64 y2006.Goal, .slice ((g2011 0).1) y2006.Gave.length ((g2011 0).2)] (.slice ((g2011 0).1) y2006.Gave.length ((g2011 0).2)) rfl (by kernel_rfl) (by kernel_rfl) (by kernel_rfl) (M_.blk 1 (b := b2016) (o := .cells ⟨[.int .i64 y2006.Guest, .int .i64 y2006.Goal, .slice ((g2011 0).1) y2006.Gave.length ((g2011 0).2)]⟩ 50 (0, 0)) (by kernel_rfl)))) ?_
        refine Z_runs [.slice p1273 x1271.length c1274, .int .i64 (x1271.length : Int), .int .i64 (w64 ((x1271.length : Int) - 1))] [(0, .slice p1273 x1271.length c1274), (1, .slice p1278 x1276.length c1279), (5, .slice p1999 s1989.1.length c2000), (6, .int .i64 s1989.2), (7, .pointer (some ⟨b2016, 0, none⟩)), (14, .slice p1278 x1276.length c1279), (15, .int .i64 (x1276.length : Int)), (16, .int .i64 s1989.2), (31, .bool false), (33, .slice ((g2011 0).1) y2006.Gave.length ((g2011 0).2)), (36, .int .i64 (w64 ((x1271.length : Int) - 1)))] (fun w_ => by kernel_rfl) (by kernel_rfl) ?_
        obtain ⟨r2068, hr2068, hm⟩ := gx_bind hm
        refine Z_call 52 #[.slice ((g2011 0).1) y2006.Gave.length ((g2011 0).2), .int .i64 0, .int .i64 (w64 ((x1271.length : Int) - 1))] (.bool r2068) (by kernel_rfl) (fun w_ => by kernel_rfl) (fun w_ M_ => (c_i_ascending w_ y2006.Gave ((g2011 0).1) ((g2011 0).2) ((hi2010.mem0 M_).at_ hg2012 0 ⟨Int, Gx.encI, y2006.Gave, (g2011 0).1, (g2011 0).2⟩ (by kernel_rfl)) 0 (w64 ((x1271.length : Int) - 1)) hr2068).mono fun e w2_ h_ => ⟨h_.1, M_.call0 h_.2⟩) ?_
        refine Z_runs [.bool (!r2068), .bool (!r2068), .bool (!r2068)] [(0, .slice p1273 x1271.length c1274), (1, .slice p1278 x1276.length c1279), (5, .slice p1999 s1989.1.length c2000), (6, .int .i64 s1989.2), (7, .pointer (some ⟨b2016, 0, none⟩)), (14, .slice p1278 x1276.length c1279), (15, .int .i64 (x1276.length : Int)), (16, .int .i64 s1989.2), (40, .bool (!r2068))] (fun w_ => by kernel_rfl) (by kernel_rfl) ?_
        rcases gx_bif hm with ⟨hc2072, hm⟩ | ⟨hc2072, hm⟩
        · refine Z_known 40 true (by kernel_rfl) hc2072 ?_
          refine Z_runs [undef, undef, undef, undef, undef, undef, undef, undef, undef, undef, undef, undef, undef, .bool true] [(0, .slice p1273 x1271.length c1274), (1, .slice p1278 x1276.length c1279), (5, .slice p1999 s1989.1.length c2000), (7, .pointer (some ⟨b2016, 0, none⟩)), (14, .slice p1278 x1276.length c1279), (15, .int .i64 (x1276.length : Int)), (16, .int .i64 s1989.2), (54, .bool true)] (fun w_ => by kernel_rfl) (by kernel_rfl) ?_
          refine Z_end fun w2073 M2074 => ?_
          obtain rfl := Option.some.inj hm
          exact N_meet fun a ha => ⟨M2074.pick [0, 1] (by kernel_rfl), ha.sub (by kernel_rfl)⟩
        refine Z_known 40 false (by kernel_rfl) hc2072 ?_
        refine Z_runs [.int .i64 s1989.2, .bool (decide (s1989.2 > 0)), .bool (decide (s1989.2 > 0))] [(0, .slice p1273 x1271.length c1274), (1, .slice p1278 x1276.length c1279), (5, .slice p1999 s1989.1.length c2000), (6, .int .i64 s1989.2), (7, .pointer (some ⟨b2016, 0, none⟩)), (14, .slice p1278 x1276.length c1279), (15, .int .i64 (x1276.length : Int)), (16, .int .i64 s1989.2), (40, .bool false), (43, .bool (decide (s1989.2 > 0)))] (fun w_ => by kernel_rfl) (by kernel_rfl) ?_
        rcases gx_bif hm with ⟨hc2075, hm⟩ | ⟨hc2075, hm⟩
        · refine Z_known 43 true (by kernel_rfl) hc2075 ?_
          refine Z_runs [.slice p1278 x1276.length c1279, .int .i64 s1989.2, .int .i64 (w64 (s1989.2 - 1))] [(0, .slice p1273 x1271.length c1274), (1, .slice p1278 x1276.length c1279), (5, .slice p1999 s1989.1.length c2000), (7, .pointer (some ⟨b2016, 0, none⟩)), (14, .slice p1278 x1276.length c1279), (15, .int .i64 (x1276.length : Int)), (16, .int .i64 s1989.2), (40, .bool false), (43, .bool true), (44, .slice p1278 x1276.length c1279), (46, .int .i64 (w64 (s1989.2 - 1)))] (fun w_ => by kernel_rfl) (by kernel_rfl) ?_
          obtain ⟨y2076, hy2076, hm⟩ := gx_bind hm
          obtain ⟨g2077, hg2078⟩ := gxIdx_fst hz2008 hy2076
          refine Z_val (elemP p1278 ((w64 (s1989.2 - 1)).toNat * 3)) (by kernel_rfl) (fun w_ M_ => (E_index (E := deepBalloon.E) _ _ _ x1276.length c1279 .i64 (w64 (s1989.2 - 1)) 3 (y := (y2076, g2077)) rfl (by kernel_rfl) (by kernel_rfl) (by kernel_rfl) (hr2009.mem0 M_) (len_fst hz2008) hg2078)) ?_
          refine Z_val (elemP p1278 ((w64 (s1989.2 - 1)).toNat * 3 + 0)) (by kernel_rfl) (fun w_ M_ => (E_fieldE (E := deepBalloon.E) _ _ 0 ((w64 (s1989.2 - 1)).toNat * 3) 0 rfl (by kernel_rfl) (by kernel_rfl) (hr2009.mem0 M_) hg2078)) ?_
          refine Z_val (.int .i64 y2076.Guest) (by kernel_rfl) (fun w_ M_ => (E_loadE (E := deepBalloon.E) _ _ false 1 (w64 (s1989.2 - 1)) 0 ((w64 (s1989.2 - 1)).toNat * 3 + 0) (y2076, g2077) (.int .i64 y2076.Guest) rfl (by kernel_rfl) (by kernel_rfl) (by kernel_rfl) (hr2009.mem0 M_) hg2078 rfl)) ?_
          refine Z_runs [.pointer (some ⟨b2016, 0, none⟩)] [(0, .slice p1273 x1271.length c1274), (1, .slice p1278 x1276.length c1279), (5, .slice p1999 s1989.1.length c2000), (7, .pointer (some ⟨b2016, 0, none⟩)), (14, .slice p1278 x1276.length c1279), (15, .int .i64 (x1276.length : Int)), (16, .int .i64 s1989.2), (40, .bool false), (43, .bool true), (49, .int .i64 y2076.Guest), (50, .pointer (some ⟨b2016, 0, none⟩))] (fun w_ => by kernel_rfl) (by kernel_rfl) ?_
          refine Z_val (.int .i64 y2006.Guest) (by kernel_rfl) (fun w_ M_ => (E_load (e := 50) (fr := (0, 0)) _ _ false 1 b2016 0 [.int .i64 y2006.Guest, .int .i64 y2006.Goal, .slice ((g2011 0).1) y2006.Gave.length ((g2011 0).2)] (.int .i64 y2006.Guest) rfl (by kernel_rfl) (by kernel_rfl) (by kernel_rfl) (M_.blk 1 (b := b2016) (o := .cells ⟨[.int .i64 y2006.Guest, .int .i64 y2006.Goal, .slice ((g2011 0).1) y2006.Gave.length ((g2011 0).2)]⟩ 50 (0, 0)) (by kernel_rfl)))) ?_
          refine Z_runs [.bool (decide (y2076.Guest ≥ y2006.Guest)), .bool (decide (y2076.Guest ≥ y2006.Guest)), .bool (decide (y2076.Guest ≥ y2006.Guest))] [(0, .slice p1273 x1271.length c1274), (1, .slice p1278 x1276.length c1279), (5, .slice p1999 s1989.1.length c2000), (7, .pointer (some ⟨b2016, 0, none⟩)), (14, .slice p1278 x1276.length c1279), (15, .int .i64 (x1276.length : Int)), (16, .int .i64 s1989.2), (54, .bool (decide (y2076.Guest ≥ y2006.Guest)))] (fun w_ => by kernel_rfl) (by kernel_rfl) ?_
          refine Z_end fun w2080 M2081 => ?_
          obtain rfl := Option.some.inj hm
          exact N_meet fun a ha => ⟨M2081.pick [0, 1] (by kernel_rfl), ha.sub (by kernel_rfl)⟩
        refine Z_known 43 false (by kernel_rfl) hc2075 ?_
        refine Z_runs [undef, undef, undef, undef, undef, undef, undef, undef, undef, .bool false, .bool false] [(0, .slice p1273 x1271.length c1274), (1, .slice p1278 x1276.length c1279), (5, .slice p1999 s1989.1.length c2000), (7, .pointer (some ⟨b2016, 0, none⟩)), (14, .slice p1278 x1276.length c1279), (15, .int .i64 (x1276.length : Int)), (16, .int .i64 s1989.2), (54, .bool false)] (fun w_ => by kernel_rfl) (by kernel_rfl) ?_
        refine Z_end fun w2082 M2083 => ?_
        obtain rfl := Option.some.inj hm
        exact N_meet fun a ha => ⟨M2083.pick [0, 1] (by kernel_rfl), ha.sub (by kernel_rfl)⟩
      intro a2086 w2084 ⟨M2085, hS2087⟩
      refine N_use hS2087 ?_
      have hm := hm2053
      refine N_then ?_
      rcases gx_bif hm with ⟨hc2088, hm⟩ | ⟨hc2088, hm⟩
      · refine G_cond_t (b := o2051) hc2088 (by kernel_rfl) ?_
        refine G_seq ?_
        refine G_region ?_
        refine W_run 1 [(4, .bool false)] w2084 (by kernel_rfl) ?_
        refine W_nil ?_
        refine N_then ?_
        refine G_ret ?_
        refine N_then_ret ?_
        refine N_block_ret ?_
        refine N_then_ret ?_
        refine N_then_ret ?_
        obtain rfl := Option.some.inj hm
        obtain rfl := hout1991 _ rfl
        have hm := hmo1998; simp only [Sum.elim_inr] at hm
        refine N_block_ret ?_
        refine N_meet_ret ?_
        refine N_then_ret ?_
        obtain rfl := Option.some.inj hm
        refine N_ret [.bool false] (RVs_cons (RV_tmp (by kernel_rfl)) RVs_nil) ?_
        exact ⟨rfl, M2085.pick [] (by kernel_rfl)⟩
      refine G_cond_f (b := o2051) hc2088 (by kernel_rfl) ?_
      refine G_skip ?_
      refine N_then ?_
      refine G_seq ?_
      refine G_region ?_
      refine W_run 1 [(0, .slice p1273 x1271.length c1274), (1, .slice p1278 x1276.length c1279), (5, .slice p1999 s1989.1.length c2000), (14, .slice p1278 x1276.length c1279), (15, .int .i64 (x1276.length : Int)), (16, .int .i64 s1989.2), (55, .pointer (some ⟨b2016, 2, none⟩))] w2084 (by kernel_rfl) ?_
      refine W_val (.slice ((g2011 0).1) y2006.Gave.length ((g2011 0).2)) w2084 (by kernel_rfl) (E_load (e := 50) (fr := (0, 0)) _ _ false 1 b2016 2 [.int .i64 y2006.Guest, .int .i64 y2006.Goal, .slice ((g2011 0).1) y2006.Gave.length ((g2011 0).2)] (.slice ((g2011 0).1) y2006.Gave.length ((g2011 0).2)) rfl (by kernel_rfl) (by kernel_rfl) (by kernel_rfl) (M2085.blk 1 (b := b2016) (o := .cells ⟨[.int .i64 y2006.Guest, .int .i64 y2006.Goal, .slice ((g2011 0).1) y2006.Gave.length ((g2011 0).2)]⟩ 50 (0, 0)) (by kernel_rfl))) ?_
      refine W_run 2 [(0, .slice p1273 x1271.length c1274), (1, .slice p1278 x1276.length c1279), (5, .slice p1999 s1989.1.length c2000), (14, .slice p1278 x1276.length c1279), (15, .int .i64 (x1276.length : Int)), (16, .int .i64 s1989.2), (56, .slice ((g2011 0).1) y2006.Gave.length ((g2011 0).2)), (57, .int .i64 (y2006.Gave.length : Int)), (58, .int .i64 0)] w2084 (by kernel_rfl) ?_
      refine W_nil ?_
      refine N_then ?_
      obtain ⟨out2175, hw2176, hmo2177⟩ := gx_bind hm
      refine G_meet (fun a w' => ∃ (o2183 : List Int), ∃ (p2184 : Option Addr), ∃ (c2185 : Nat), ∃ (sg2186 : Seg), ownS Gx.encI o2183 p2184 c2185 sg2186 ∧ out2175 = .inl o2183 ∧ Mem [] w w' [sg2186] ∧ Sat Try.f17.ntmps [(0, .slice p1273 x1271.length c1274), (1, .slice p1278 x1276.length c1279), (5, .slice p2184 o2183.length c2185), (14, .slice p1278 x1276.length c1279), (15, .int .i64 (x1276.length : Int)), (16, .int .i64 s1989.2)] a) ?_ ?_
      · refine G_block ?_
        refine G_while (σ := List Int × Int) (ρ := (List Int) ⊕ (Bool)) (fun s2168 a w' => ∃ (p2178 : Option Addr), ∃ (c2179 : Nat), ∃ (sg2180 : Seg), ownS Gx.encI s2168.1 p2178 c2179 sg2180 ∧ Mem [] w w' [sg2180] ∧ Sat Try.f17.ntmps [(0, .slice p1273 x1271.length c1274), (1, .slice p1278 x1276.length c1279), (5, .slice p2178 s2168.1.length c2179), (14, .slice p1278 x1276.length c1279), (15, .int .i64 (x1276.length : Int)), (16, .int .i64 s1989.2), (56, .slice ((g2011 0).1) y2006.Gave.length ((g2011 0).2)), (57, .int .i64 (y2006.Gave.length : Int)), (58, .int .i64 s2168.2)] a) hw2176 (fun a ha => ⟨p1999, c2000, sg2001, ho2002, M2085.pick [0] (by kernel_rfl), ha.sub (by kernel_rfl)⟩) ?_
        clear hm
        intro s2168 x2169 hm hout2170 a2171 w2172 ⟨p2178, c2179, sg2180, ho2181, M2173, hS2174⟩
        refine G_use hS2174 ?_
        refine G_seq ?_
        refine G_region ?_
        refine W_run 1 [(0, .slice p1273 x1271.length c1274), (1, .slice p1278 x1276.length c1279), (5, .slice p2178 s2168.1.length c2179), (14, .slice p1278 x1276.length c1279), (15, .int .i64 (x1276.length : Int)), (16, .int .i64 s1989.2), (56, .slice ((g2011 0).1) y2006.Gave.length ((g2011 0).2)), (57, .int .i64 (y2006.Gave.length : Int)), (58, .int .i64 s2168.2), (59, .bool (decide (s2168.2 < (y2006.Gave.length : Int))))] w2172 (by kernel_rfl) ?_
        refine W_nil ?_
        refine N_then ?_
        refine G_seq ?_
        rcases gx_bif hm with ⟨hc2189, hm⟩ | ⟨hc2189, hm⟩
        · refine G_cond_t (b := (decide (s2168.2 < (y2006.Gave.length : Int)))) hc2189 (by kernel_rfl) ?_
          refine G_skip ?_
          refine N_then ?_
          refine G_seq ?_
          refine G_block ?_
          refine G_seq ?_
          refine G_region ?_
          obtain ⟨y2190, hy2190, hm⟩ := gx_bind hm
          refine W_val (elemP ((g2011 0).1) (s2168.2.toNat * 1)) w2172 (by kernel_rfl) (E_index (E := Gx.encI) _ _ _ y2006.Gave.length ((g2011 0).2) .i64 s2168.2 1 (y := y2190) rfl (by kernel_rfl) (by kernel_rfl) (by kernel_rfl) ((hi2010.mem0 M2173).at_ hg2012 0 ⟨Int, Gx.encI, y2006.Gave, (g2011 0).1, (g2011 0).2⟩ (by kernel_rfl)) rfl hy2190) ?_
          refine W_val (.int .i64 y2190) w2172 (by kernel_rfl) (E_loadE (E := Gx.encI) _ _ false 1 s2168.2 0 (s2168.2.toNat * 1) y2190 (.int .i64 y2190) rfl (by kernel_rfl) (by kernel_rfl) (by kernel_rfl) ((hi2010.mem0 M2173).at_ hg2012 0 ⟨Int, Gx.encI, y2006.Gave, (g2011 0).1, (g2011 0).2⟩ (by kernel_rfl)) hy2190 rfl) ?_
          refine W_run 1 [(0, .slice p1273 x1271.length c1274), (1, .slice p1278 x1276.length c1279), (5, .slice p2178 s2168.1.length c2179), (9, .int .i64 y2190), (14, .slice p1278 x1276.length c1279), (15, .int .i64 (x1276.length : Int)), (16, .int .i64 s1989.2), (56, .slice ((g2011 0).1) y2006.Gave.length ((g2011 0).2)), (57, .int .i64 (y2006.Gave.length : Int)), (58, .int .i64 s2168.2)] w2172 (by kernel_rfl) ?_
          refine W_nil ?_
          refine N_then ?_
          refine G_seq ?_
          refine G_seq ?_
          obtain ⟨o2197, ho2198, hm2199⟩ := gx_bind hm
          refine G_meet (fun a w' => Mem [] w w' [sg2180] ∧ Sat Try.f17.ntmps [(0, .slice p1273 x1271.length c1274), (1, .slice p1278 x1276.length c1279), (5, .slice p2178 s2168.1.length c2179), (9, .int .i64 y2190), (14, .slice p1278 x1276.length c1279), (15, .int .i64 (x1276.length : Int)), (16, .int .i64 s1989.2), (56, .slice ((g2011 0).1) y2006.Gave.length ((g2011 0).2)), (57, .int .i64 (y2006.Gave.length : Int)), (58, .int .i64 s2168.2), (71, .bool o2197)] a) ?_ ?_
          · have hm := ho2198
            refine G_region ?_
            refine W_run 2 [(0, .slice p1273 x1271.length c1274), (1, .slice p1278 x1276.length c1279), (5, .slice p2178 s2168.1.length c2179), (9, .int .i64 y2190), (14, .slice p1278 x1276.length c1279), (15, .int .i64 (x1276.length : Int)), (16, .int .i64 s1989.2), (56, .slice ((g2011 0).1) y2006.Gave.length ((g2011 0).2)), (57, .int .i64 (y2006.Gave.length : Int)), (58, .int .i64 s2168.2), (62, .slice p1273 x1271.length c1274), (63, .int .i64 y2190)] w2172 (by kernel_rfl) ?_
            obtain ⟨y2200, hy2200, hm⟩ := gx_bind hm
            refine W_val (elemP p1273 (y2190.toNat * 1)) w2172 (by kernel_rfl) (E_index (E := Gx.encI) _ _ _ x1271.length c1274 .i64 y2190 1 (y := y2200) rfl (by kernel_rfl) (by kernel_rfl) (by kernel_rfl) (h1275.mem0 M2173) rfl hy2200) ?_
            refine W_val (.int .i64 y2200) w2172 (by kernel_rfl) (E_loadE (E := Gx.encI) _ _ false 1 y2190 0 (y2190.toNat * 1) y2200 (.int .i64 y2200) rfl (by kernel_rfl) (by kernel_rfl) (by kernel_rfl) (h1275.mem0 M2173) hy2200 rfl) ?_
            refine W_run 2 [(0, .slice p1273 x1271.length c1274), (1, .slice p1278 x1276.length c1279), (5, .slice p2178 s2168.1.length c2179), (9, .int .i64 y2190), (14, .slice p1278 x1276.length c1279), (15, .int .i64 (x1276.length : Int)), (16, .int .i64 s1989.2), (56, .slice ((g2011 0).1) y2006.Gave.length ((g2011 0).2)), (57, .int .i64 (y2006.Gave.length : Int)), (58, .int .i64 s2168.2), (67, .bool (y2200 != 0))] w2172 (by kernel_rfl) ?_
            rcases gx_bif hm with ⟨hc2201, hm⟩ | ⟨hc2201, hm⟩
            · refine W_known 67 true (by kernel_rfl) hc2201 ?_
              refine W_run 4 [(0, .slice p1273 x1271.length c1274), (1, .slice p1278 x1276.length c1279), (5, .slice p2178 s2168.1.length c2179), (9, .int .i64 y2190), (14, .slice p1278 x1276.length c1279), (15, .int .i64 (x1276.length : Int)), (16, .int .i64 s1989.2), (56, .slice ((g2011 0).1) y2006.Gave.length ((g2011 0).2)), (57, .int .i64 (y2006.Gave.length : Int)), (58, .int .i64 s2168.2), (71, .bool true)] w2172 (by kernel_rfl) ?_
              refine W_nil ?_
              obtain rfl := Option.some.inj hm
              exact N_meet fun a ha => ⟨M2173.pick [0] (by kernel_rfl), ha.sub (by kernel_rfl)⟩
            refine W_known 67 false (by kernel_rfl) hc2201 ?_
            refine W_run 2 [(0, .slice p1273 x1271.length c1274), (1, .slice p1278 x1276.length c1279), (5, .slice p2178 s2168.1.length c2179), (9, .int .i64 y2190), (14, .slice p1278 x1276.length c1279), (15, .int .i64 (x1276.length : Int)), (16, .int .i64 s1989.2), (56, .slice ((g2011 0).1) y2006.Gave.length ((g2011 0).2)), (57, .int .i64 (y2006.Gave.length : Int)), (58, .int .i64 s2168.2), (67, .bool false), (68, .slice p2178 s2168.1.length c2179), (69, .int .i64 y2190)] w2172 (by kernel_rfl) ?_
            obtain ⟨r2202, hr2202, hm⟩ := gx_bind hm
            refine W_call 53 #[.slice p2178 s2168.1.length c2179, .int .i64 y2190] (by kernel_rfl) (by kernel_rfl) ?_
            refine (c_slices_Contains_53 w2172 s2168.1 p2178 c2179 (ho2181.rd M2173 0 (by kernel_rfl)) y2190 hr2202).mono ?_
            rintro e_ w2203 ⟨rfl, K2204⟩
            have M2205 := M2173.call0 K2204
            refine ⟨_, rfl, ?_⟩
            refine W_run 1 [(0, .slice p1273 x1271.length c1274), (1, .slice p1278 x1276.length c1279), (5, .slice p2178 s2168.1.length c2179), (9, .int .i64 y2190), (14, .slice p1278 x1276.length c1279), (15, .int .i64 (x1276.length : Int)), (16, .int .i64 s1989.2), (56, .slice ((g2011 0).1) y2006.Gave.length ((g2011 0).2)), (57, .int .i64 (y2006.Gave.length : Int)), (58, .int .i64 s2168.2), (71, .bool r2202)] w2203 (by kernel_rfl) ?_
            refine W_nil ?_
            obtain rfl := Option.some.inj hm
            exact N_meet fun a ha => ⟨M2205.pick [0] (by kernel_rfl), ha.sub (by kernel_rfl)⟩
          intro a2208 w2206 ⟨M2207, hS2209⟩
          refine N_use hS2209 ?_
          have hm := hm2199
          refine N_then ?_
          rcases gx_bif hm with ⟨hc2210, hm⟩ | ⟨hc2210, hm⟩
          · refine G_cond_t (b := o2197) hc2210 (by kernel_rfl) ?_
            refine G_seq ?_
            refine G_region ?_
            refine W_run 1 [(4, .bool false)] w2206 (by kernel_rfl) ?_
            refine W_nil ?_
            refine N_then ?_
            refine G_ret ?_
            refine N_then_ret ?_
            refine N_block_ret ?_
            refine N_then_ret ?_
            refine N_then_ret ?_
            obtain rfl := Option.some.inj hm
            obtain rfl := hout2170 _ rfl
            have hm := hmo2177; simp only [Sum.elim_inr] at hm
            refine N_block_ret ?_
            refine N_meet_ret ?_
            refine N_block_ret ?_
            refine N_then_ret ?_
            refine N_then_ret ?_
            obtain rfl := Option.some.inj hm
            obtain rfl := hout1991 _ rfl
            have hm := hmo1998; simp only [Sum.elim_inr] at hm
            refine N_block_ret ?_
            refine N_meet_ret ?_
            refine N_then_ret ?_
            obtain rfl := Option.some.inj hm
            refine N_ret [.bool false] (RVs_cons (RV_tmp (by kernel_rfl)) RVs_nil) ?_
            exact ⟨rfl, M2207.pick [] (by kernel_rfl)⟩
          refine G_cond_f (b := o2197) hc2210 (by kernel_rfl) ?_
          refine G_skip ?_
          refine N_then ?_
          refine G_region ?_
          refine W_run 2 [(0, .slice p1273 x1271.length c1274), (1, .slice p1278 x1276.length c1279), (5, .slice p2178 s2168.1.length c2179), (14, .slice p1278 x1276.length c1279), (15, .int .i64 (x1276.length : Int)), (16, .int .i64 s1989.2), (56, .slice ((g2011 0).1) y2006.Gave.length ((g2011 0).2)), (57, .int .i64 (y2006.Gave.length : Int)), (58, .int .i64 s2168.2), (72, .slice p2178 s2168.1.length c2179), (73, .int .i64 y2190)] w2206 (by kernel_rfl) ?_
          refine W_lit (E := Gx.encI) [y2190] 1 [.int .i64 y2190] 3 M2207 (by kernel_rfl) (by kernel_rfl) (by kernel_rfl) (by kernel_rfl) (by kernel_rfl) ?_
          intro p2211 c2212 sg2213 w2214 ho2215 M2216
          obtain ⟨ap2218, hap2218, hm⟩ := gx_bind hm
          refine W_append (E := Gx.encI) _ _ _ 8 [.int .i64 0] 0 c2212 M2216 ho2181 (by kernel_rfl) (by kernel_rfl) (by kernel_rfl) rfl (by kernel_rfl) (by kernel_rfl) (by kernel_rfl) (by kernel_rfl) (by kernel_rfl) (by kernel_rfl) (ho2215.rd M2216 1 (by kernel_rfl)) hap2218 ?_
          intro p2219 c2220 sg2221 w2222 ho2223 M2224
          refine W_run 1 [(0, .slice p1273 x1271.length c1274), (1, .slice p1278 x1276.length c1279), (5, .slice p2219 ap2218.length c2220), (14, .slice p1278 x1276.length c1279), (15, .int .i64 (x1276.length : Int)), (16, .int .i64 s1989.2), (56, .slice ((g2011 0).1) y2006.Gave.length ((g2011 0).2)), (57, .int .i64 (y2006.Gave.length : Int)), (58, .int .i64 s2168.2)] w2222 (by kernel_rfl) ?_
          refine W_nil ?_
          refine N_block ?_
          refine N_then ?_
          refine G_region ?_
          refine W_run 2 [(0, .slice p1273 x1271.length c1274), (1, .slice p1278 x1276.length c1279), (5, .slice p2219 ap2218.length c2220), (14, .slice p1278 x1276.length c1279), (15, .int .i64 (x1276.length : Int)), (16, .int .i64 s1989.2), (56, .slice ((g2011 0).1) y2006.Gave.length ((g2011 0).2)), (57, .int .i64 (y2006.Gave.length : Int)), (58, .int .i64 (w64 (s2168.2 + 1)))] w2222 (by kernel_rfl) ?_
          refine W_nil ?_
          obtain rfl := Option.some.inj hm
          exact N_loop fun a ha => ⟨_, rfl, p2219, c2220, sg2221, ho2223, M2224.pick [0] (by kernel_rfl), ha.sub (by kernel_rfl)⟩
        refine G_cond_f (b := (decide (s2168.2 < (y2006.Gave.length : Int)))) hc2189 (by kernel_rfl) ?_
        refine G_exit ?_
        refine N_then_exit ?_
        refine N_then_exit ?_
        refine N_block_eq ?_
        obtain rfl := Option.some.inj hm
        obtain rfl := hout2170 _ rfl
        exact N_meet fun a ha => ⟨_, p2178, c2179, sg2180, ho2181, rfl, M2173.pick [0] (by kernel_rfl), ha.sub (by kernel_rfl)⟩
      intro a2226 w2227 ⟨o2183, p2184, c2185, sg2186, ho2187, hout_, M2228, hS2229⟩
      refine N_use hS2229 ?_
      subst hout_
      have hm := hmo2177; simp only [Sum.elim_inl] at hm
      refine N_block ?_
      refine N_then ?_
      refine G_region ?_
      refine W_run 2 [(0, .slice p1273 x1271.length c1274), (1, .slice p1278 x1276.length c1279), (5, .slice p2184 o2183.length c2185), (14, .slice p1278 x1276.length c1279), (15, .int .i64 (x1276.length : Int)), (16, .int .i64 (w64 (s1989.2 + 1)))] w2227 (by kernel_rfl) ?_
      refine W_nil ?_
      obtain rfl := Option.some.inj hm
      exact N_loop fun a ha => ⟨_, rfl, p2184, c2185, sg2186, ho2187, M2228.pick [0] (by kernel_rfl), ha.sub (by kernel_rfl)⟩
    refine G_cond_f (b := (decide (s1989.2 < (x1276.length : Int)))) hc2005 (by kernel_rfl) ?_
    refine G_exit ?_
    refine N_then_exit ?_
    refine N_then_exit ?_
    refine N_block_eq ?_
    obtain rfl := Option.some.inj hm
    obtain rfl := hout1991 _ rfl
    exact N_meet fun a ha => ⟨_, rfl, M1994.pick [] (by kernel_rfl), ha.sub (by kernel_rfl)⟩
  intro a2230 w2231 ⟨o2004, hout_, M2232, hS2233⟩
  refine N_use hS2233 ?_
  subst hout_
  have hm := hmo1998; simp only [Sum.elim_inl] at hm
  refine N_then ?_
  refine G_seq ?_
  refine G_region ?_
  refine W_run 1 [(4, .bool true)] w2231 (by kernel_rfl) ?_
  refine W_nil ?_
  refine N_then ?_
  refine G_ret ?_
  obtain rfl := Option.some.inj hm
  refine N_ret [.bool true] (RVs_cons (RV_tmp (by kernel_rfl)) RVs_nil) ?_
  exact ⟨rfl, M2232.pick [] (by kernel_rfl)⟩
theorem c_l_eqIntS (w : World) (x2248 : List Int) (p2250 : Option Addr) (c2251 : Nat) (h2252 : rdS Gx.encI w x2248 p2250 c2251) (x2253 : List Int) (p2255 : Option Addr) (c2256 : Nat) (h2257 : rdS Gx.encI w x2253 p2255 c2256) {r : Bool} (hm : M.l_eqIntS x2248 x2253 = some r) :
    Calls Try.prog 18 #[.slice p2250 x2248.length c2251, .slice p2255 x2253.length c2256] w fun e w' => e = .returned (.bool r) ∧ Mem [] w w' [] := by
  unfold M.l_eqIntS at hm
  refine C_enter Try.func18 rfl (by kernel_rfl) ?_
  have M0 := Mem.refl [] w
  refine G_seq ?_
  refine G_region ?_
  refine W_run 1 [(0, .slice p2250 x2248.length c2251), (1, .slice p2255 x2253.length c2256)] w (by kernel_rfl) ?_
  refine W_nil ?_
  refine N_then ?_
  refine G_seq ?_
  refine G_seq ?_
  refine G_region ?_
  refine W_run 5 [(0, .slice p2250 x2248.length c2251), (1, .slice p2255 x2253.length c2256), (10, .bool ((x2248.length : Int) != (x2253.length : Int)))] w (by kernel_rfl) ?_
  refine W_nil ?_
  refine N_then ?_
  rcases gx_bif hm with ⟨hc2258, hm⟩ | ⟨hc2258, hm⟩
  · refine G_cond_t (b := ((x2248.length : Int) != (x2253.length : Int))) hc2258 (by kernel_rfl) ?_
    refine G_seq ?_
    refine G_region ?_
    refine W_run 1 [(4, .bool false)] w (by kernel_rfl) ?_
    refine W_nil ?_
    refine N_then ?_
    refine G_ret ?_
    refine N_then_ret ?_
    obtain rfl := Option.some.inj hm
    refine N_ret [.bool false] (RVs_cons (RV_tmp (by kernel_rfl)) RVs_nil) ?_
    exact ⟨rfl, M0.pick [] (by kernel_rfl)⟩
  refine G_cond_f (b := ((x2248.length : Int) != (x2253.length : Int))) hc2258 (by kernel_rfl) ?_
  refine G_skip ?_
  refine N_then ?_
  refine G_seq ?_
  refine G_seq ?_
  refine G_region ?_
  refine W_run 1 [(0, .slice p2250 x2248.length c2251), (1, .slice p2255 x2253.length c2256), (5, .int .i64 0)] w (by kernel_rfl) ?_
  refine W_nil ?_
  refine N_then ?_
  obtain ⟨out2278, hw2279, hmo2280⟩ := gx_bind hm
  refine G_meet (fun a w' => ∃ (o2281 : Unit), out2278 = .inl o2281 ∧ Mem [] w w' [] ∧ Sat Try.f18.ntmps [] a) ?_ ?_
  · refine G_block ?_
    refine G_while (σ := Int) (ρ := (Unit) ⊕ (Bool)) (fun s2271 a w' => Mem [] w w' [] ∧ Sat Try.f18.ntmps [(0, .slice p2250 x2248.length c2251), (1, .slice p2255 x2253.length c2256), (5, .int .i64 s2271)] a) hw2279 (fun a ha => ⟨M0.pick [] (by kernel_rfl), ha.sub (by kernel_rfl)⟩) ?_
    clear hm
    intro s2271 x2272 hm hout2273 a2274 w2275 ⟨M2276, hS2277⟩
    refine G_use hS2277 ?_
    refine G_seq ?_
    refine G_seq ?_
    refine G_region ?_
    refine W_run 4 [(0, .slice p2250 x2248.length c2251), (1, .slice p2255 x2253.length c2256), (5, .int .i64 s2271), (14, .bool (decide (s2271 < (x2248.length : Int))))] w2275 (by kernel_rfl) ?_
    refine W_nil ?_
    refine N_then ?_
    rcases gx_bif hm with ⟨hc2282, hm⟩ | ⟨hc2282, hm⟩
    · refine G_cond_t (b := (decide (s2271 < (x2248.length : Int)))) hc2282 (by kernel_rfl) ?_
      refine G_skip ?_
      refine N_then ?_
      refine G_seq ?_
      refine G_block ?_
      refine G_seq ?_
      refine G_quiet (by kernel_rfl) (by kernel_rfl) M2276 ?_
      refine Z_runs [.slice p2250 x2248.length c2251, .int .i64 s2271] [(0, .slice p2250 x2248.length c2251), (1, .slice p2255 x2253.length c2256), (5, .int .i64 s2271), (17, .slice p2250 x2248.length c2251), (18, .int .i64 s2271)] (fun w_ => by kernel_rfl) (by kernel_rfl) ?_
      obtain ⟨y2283, hy2283, hm⟩ := gx_bind hm
      refine Z_val (elemP p2250 (s2271.toNat * 1)) (by kernel_rfl) (fun w_ M_ => (E_index (E := Gx.encI) _ _ _ x2248.length c2251 .i64 s2271 1 (y := y2283) rfl (by kernel_rfl) (by kernel_rfl) (by kernel_rfl) (h2252.mem0 M_) rfl hy2283)) ?_
      refine Z_val (.int .i64 y2283) (by kernel_rfl) (fun w_ M_ => (E_loadE (E := Gx.encI) _ _ false 1 s2271 0 (s2271.toNat * 1) y2283 (.int .i64 y2283) rfl (by kernel_rfl) (by kernel_rfl) (by kernel_rfl) (h2252.mem0 M_) hy2283 rfl)) ?_
      refine Z_runs [.slice p2255 x2253.length c2256, .int .i64 s2271] [(0, .slice p2250 x2248.length c2251), (1, .slice p2255 x2253.length c2256), (5, .int .i64 s2271), (20, .int .i64 y2283), (21, .slice p2255 x2253.length c2256), (22, .int .i64 s2271)] (fun w_ => by kernel_rfl) (by kernel_rfl) ?_
      obtain ⟨y2284, hy2284, hm⟩ := gx_bind hm
      refine Z_val (elemP p2255 (s2271.toNat * 1)) (by kernel_rfl) (fun w_ M_ => (E_index (E := Gx.encI) _ _ _ x2253.length c2256 .i64 s2271 1 (y := y2284) rfl (by kernel_rfl) (by kernel_rfl) (by kernel_rfl) (h2257.mem0 M_) rfl hy2284)) ?_
      refine Z_val (.int .i64 y2284) (by kernel_rfl) (fun w_ M_ => (E_loadE (E := Gx.encI) _ _ false 1 s2271 0 (s2271.toNat * 1) y2284 (.int .i64 y2284) rfl (by kernel_rfl) (by kernel_rfl) (by kernel_rfl) (h2257.mem0 M_) hy2284 rfl)) ?_
      refine Z_runs [.bool (y2283 != y2284)] [(0, .slice p2250 x2248.length c2251), (1, .slice p2255 x2253.length c2256), (5, .int .i64 s2271), (25, .bool (y2283 != y2284))] (fun w_ => by kernel_rfl) (by kernel_rfl) ?_
      refine Z_end fun w2285 M2286 => ?_
      refine N_then ?_
      rcases gx_bif hm with ⟨hc2287, hm⟩ | ⟨hc2287, hm⟩
      · refine G_cond_t (b := (y2283 != y2284)) hc2287 (by kernel_rfl) ?_
        refine G_seq ?_
        refine G_region ?_
        refine W_run 1 [(4, .bool false)] w2285 (by kernel_rfl) ?_
        refine W_nil ?_
        refine N_then ?_
        refine G_ret ?_
        refine N_block_ret ?_
        refine N_then_ret ?_
        refine N_then_ret ?_
        obtain rfl := Option.some.inj hm
        obtain rfl := hout2273 _ rfl
        have hm := hmo2280; simp only [Sum.elim_inr] at hm
        refine N_block_ret ?_
        refine N_meet_ret ?_
        refine N_then_ret ?_
        obtain rfl := Option.some.inj hm
        refine N_ret [.bool false] (RVs_cons (RV_tmp (by kernel_rfl)) RVs_nil) ?_
        exact ⟨rfl, M2286.pick [] (by kernel_rfl)⟩
      refine G_cond_f (b := (y2283 != y2284)) hc2287 (by kernel_rfl) ?_
      refine G_skip ?_
      refine N_block ?_
      refine N_then ?_
      refine G_region ?_
      refine W_run 3 [(0, .slice p2250 x2248.length c2251), (1, .slice p2255 x2253.length c2256), (5, .int .i64 (w64 (s2271 + 1)))] w2285 (by kernel_rfl) ?_
      refine W_nil ?_
      obtain rfl := Option.some.inj hm
      exact N_loop fun a ha => ⟨_, rfl, M2286.pick [] (by kernel_rfl), ha.sub (by kernel_rfl)⟩
    refine G_cond_f (b := (decide (s2271 < (x2248.length : Int)))) hc2282 (by kernel_rfl) ?_
    refine G_exit ?_
    refine N_then_exit ?_
    refine N_then_exit ?_
    refine N_block_eq ?_
    obtain rfl := Option.some.inj hm
    obtain rfl := hout2273 _ rfl
    exact N_meet fun a ha => ⟨_, rfl, M2276.pick [] (by kernel_rfl), ha.sub (by kernel_rfl)⟩
  intro a2288 w2289 ⟨o2281, hout_, M2290, hS2291⟩
  refine N_use hS2291 ?_
  subst hout_
  have hm := hmo2280; simp only [Sum.elim_inl] at hm
  refine N_then ?_
  refine G_seq ?_
  refine G_region ?_
  refine W_run 1 [(4, .bool true)] w2289 (by kernel_rfl) ?_
  refine W_nil ?_
  refine N_then ?_
  refine G_ret ?_
  obtain rfl := Option.some.inj hm
  refine N_ret [.bool true] (RVs_cons (RV_tmp (by kernel_rfl)) RVs_nil) ?_
  exact ⟨rfl, M2290.pick [] (by kernel_rfl)⟩
theorem c_l_eqBalloon (w : World) (x2335 : Balloon) (p2337 : Option Addr) (c2338 : Nat) (h2339 : rdS Gx.encI w x2335.Gave p2337 c2338) (x2340 : Balloon) (p2342 : Option Addr) (c2343 : Nat) (h2344 : rdS Gx.encI w x2340.Gave p2342 c2343) {r : Bool} (hm : M.l_eqBalloon x2335 x2340 = some r) :
    Calls Try.prog 54 #[.agg #[.int .i64 x2335.Guest, .int .i64 x2335.Goal, .slice p2337 x2335.Gave.length c2338], .agg #[.int .i64 x2340.Guest, .int .i64 x2340.Goal, .slice p2342 x2340.Gave.length c2343]] w fun e w' => e = .returned (.bool r) ∧ Mem [] w w' [] := by
  unfold M.l_eqBalloon at hm
  refine C_enter Try.func54 rfl (by kernel_rfl) ?_
  have M0 := Mem.refl [] w
  refine G_seq ?_
  refine G_region ?_
  refine W_new (fun b => .pointer (some ⟨b, 0, none⟩)) (.cells ⟨[.int .i64 x2335.Guest, .int .i64 x2335.Goal, .slice p2337 x2335.Gave.length c2338]⟩ 50 (0, 0)) M0 rfl (by kernel_rfl) (by kernel_rfl) ?_
  intro b2346 w2347 M2348
  refine W_new (fun b => .pointer (some ⟨b, 0, none⟩)) (.cells ⟨[.int .i64 x2340.Guest, .int .i64 x2340.Goal, .slice p2342 x2340.Gave.length c2343]⟩ 50 (0, 0)) M2348 rfl (by kernel_rfl) (by kernel_rfl) ?_
  intro b2350 w2351 M2352
  refine W_run 1 [(2, .pointer (some ⟨b2346, 0, none⟩)), (3, .pointer (some ⟨b2350, 0, none⟩))] w2351 (by kernel_rfl) ?_
  refine W_nil ?_
  refine N_then ?_
  refine G_seq ?_
  refine G_seq ?_
  refine G_region ?_
  refine W_run 1 [(2, .pointer (some ⟨b2346, 0, none⟩)), (3, .pointer (some ⟨b2350, 0, none⟩)), (5, .pointer (some ⟨b2346, 0, none⟩))] w2351 (by kernel_rfl) ?_
  refine W_val (.int .i64 x2335.Guest) w2351 (by kernel_rfl) (E_load (e := 50) (fr := (0, 0)) _ _ false 1 b2346 0 [.int .i64 x2335.Guest, .int .i64 x2335.Goal, .slice p2337 x2335.Gave.length c2338] (.int .i64 x2335.Guest) rfl (by kernel_rfl) (by kernel_rfl) (by kernel_rfl) (M2352.blk 0 (b := b2346) (o := .cells ⟨[.int .i64 x2335.Guest, .int .i64 x2335.Goal, .slice p2337 x2335.Gave.length c2338]⟩ 50 (0, 0)) (by kernel_rfl))) ?_
  refine W_run 1 [(2, .pointer (some ⟨b2346, 0, none⟩)), (3, .pointer (some ⟨b2350, 0, none⟩)), (6, .int .i64 x2335.Guest), (7, .pointer (some ⟨b2350, 0, none⟩))] w2351 (by kernel_rfl) ?_
  refine W_val (.int .i64 x2340.Guest) w2351 (by kernel_rfl) (E_load (e := 50) (fr := (0, 0)) _ _ false 1 b2350 0 [.int .i64 x2340.Guest, .int .i64 x2340.Goal, .slice p2342 x2340.Gave.length c2343] (.int .i64 x2340.Guest) rfl (by kernel_rfl) (by kernel_rfl) (by kernel_rfl) (M2352.blk 1 (b := b2350) (o := .cells ⟨[.int .i64 x2340.Guest, .int .i64 x2340.Goal, .slice p2342 x2340.Gave.length c2343]⟩ 50 (0, 0)) (by kernel_rfl))) ?_
  refine W_run 1 [(2, .pointer (some ⟨b2346, 0, none⟩)), (3, .pointer (some ⟨b2350, 0, none⟩)), (9, .bool (x2335.Guest != x2340.Guest))] w2351 (by kernel_rfl) ?_
  refine W_nil ?_
  refine N_then ?_
  rcases gx_bif hm with ⟨hc2353, hm⟩ | ⟨hc2353, hm⟩
  · refine G_cond_t (b := (x2335.Guest != x2340.Guest)) hc2353 (by kernel_rfl) ?_
    refine G_seq ?_
    refine G_region ?_
    refine W_run 1 [(4, .bool false)] w2351 (by kernel_rfl) ?_
    refine W_nil ?_
    refine N_then ?_
    refine G_ret ?_
    refine N_then_ret ?_
    obtain rfl := Option.some.inj hm
    refine N_ret [.bool false] (RVs_cons (RV_tmp (by kernel_rfl)) RVs_nil) ?_
    exact ⟨rfl, M2352.pick [] (by kernel_rfl)⟩
  refine G_cond_f (b := (x2335.Guest != x2340.Guest)) hc2353 (by kernel_rfl) ?_
  refine G_skip ?_
  refine N_then ?_
  refine G_seq ?_
  refine G_seq ?_
  refine G_region ?_
  refine W_run 1 [(2, .pointer (some ⟨b2346, 0, none⟩)), (3, .pointer (some ⟨b2350, 0, none⟩)), (10, .pointer (some ⟨b2346, 1, none⟩))] w2351 (by kernel_rfl) ?_
  refine W_val (.int .i64 x2335.Goal) w2351 (by kernel_rfl) (E_load (e := 50) (fr := (0, 0)) _ _ false 1 b2346 1 [.int .i64 x2335.Guest, .int .i64 x2335.Goal, .slice p2337 x2335.Gave.length c2338] (.int .i64 x2335.Goal) rfl (by kernel_rfl) (by kernel_rfl) (by kernel_rfl) (M2352.blk 0 (b := b2346) (o := .cells ⟨[.int .i64 x2335.Guest, .int .i64 x2335.Goal, .slice p2337 x2335.Gave.length c2338]⟩ 50 (0, 0)) (by kernel_rfl))) ?_
  refine W_run 1 [(2, .pointer (some ⟨b2346, 0, none⟩)), (3, .pointer (some ⟨b2350, 0, none⟩)), (11, .int .i64 x2335.Goal), (12, .pointer (some ⟨b2350, 1, none⟩))] w2351 (by kernel_rfl) ?_
  refine W_val (.int .i64 x2340.Goal) w2351 (by kernel_rfl) (E_load (e := 50) (fr := (0, 0)) _ _ false 1 b2350 1 [.int .i64 x2340.Guest, .int .i64 x2340.Goal, .slice p2342 x2340.Gave.length c2343] (.int .i64 x2340.Goal) rfl (by kernel_rfl) (by kernel_rfl) (by kernel_rfl) (M2352.blk 1 (b := b2350) (o := .cells ⟨[.int .i64 x2340.Guest, .int .i64 x2340.Goal, .slice p2342 x2340.Gave.length c2343]⟩ 50 (0, 0)) (by kernel_rfl))) ?_
  refine W_run 1 [(2, .pointer (some ⟨b2346, 0, none⟩)), (3, .pointer (some ⟨b2350, 0, none⟩)), (14, .bool (x2335.Goal != x2340.Goal))] w2351 (by kernel_rfl) ?_
  refine W_nil ?_
  refine N_then ?_
  rcases gx_bif hm with ⟨hc2354, hm⟩ | ⟨hc2354, hm⟩
  · refine G_cond_t (b := (x2335.Goal != x2340.Goal)) hc2354 (by kernel_rfl) ?_
    refine G_seq ?_
    refine G_region ?_
    refine W_run 1 [(4, .bool false)] w2351 (by kernel_rfl) ?_
    refine W_nil ?_
    refine N_then ?_
    refine G_ret ?_
    refine N_then_ret ?_
    obtain rfl := Option.some.inj hm
    refine N_ret [.bool false] (RVs_cons (RV_tmp (by kernel_rfl)) RVs_nil) ?_
    exact ⟨rfl, M2352.pick [] (by kernel_rfl)⟩
  refine G_cond_f (b := (x2335.Goal != x2340.Goal)) hc2354 (by kernel_rfl) ?_
  refine G_skip ?_
  refine N_then ?_
  refine G_seq ?_
  refine G_seq ?_
  refine G_region ?_
  refine W_run 1 [(3, .pointer (some ⟨b2350, 0, none⟩)), (15, .pointer (some ⟨b2346, 2, none⟩))] w2351 (by kernel_rfl) ?_
  refine W_val (.slice p2337 x2335.Gave.length c2338) w2351 (by kernel_rfl) (E_load (e := 50) (fr := (0, 0)) _ _ false 1 b2346 2 [.int .i64 x2335.Guest, .int .i64 x2335.Goal, .slice p2337 x2335.Gave.length c2338] (.slice p2337 x2335.Gave.length c2338) rfl (by kernel_rfl) (by kernel_rfl) (by kernel_rfl) (M2352.blk 0 (b := b2346) (o := .cells ⟨[.int .i64 x2335.Guest, .int .i64 x2335.Goal, .slice p2337 x2335.Gave.length c2338]⟩ 50 (0, 0)) (by kernel_rfl))) ?_
  refine W_run 1 [(16, .slice p2337 x2335.Gave.length c2338), (17, .pointer (some ⟨b2350, 2, none⟩))] w2351 (by kernel_rfl) ?_
  refine W_val (.slice p2342 x2340.Gave.length c2343) w2351 (by kernel_rfl) (E_load (e := 50) (fr := (0, 0)) _ _ false 1 b2350 2 [.int .i64 x2340.Guest, .int .i64 x2340.Goal, .slice p2342 x2340.Gave.length c2343] (.slice p2342 x2340.Gave.length c2343) rfl (by kernel_rfl) (by kernel_rfl) (by kernel_rfl) (M2352.blk 1 (b := b2350) (o := .cells ⟨[.int .i64 x2340.Guest, .int .i64 x2340.Goal, .slice p2342 x2340.Gave.length c2343]⟩ 50 (0, 0)) (by kernel_rfl))) ?_
  obtain ⟨r2355, hr2355, hm⟩ := gx_bind hm
  refine W_call 18 #[.slice p2337 x2335.Gave.length c2338, .slice p2342 x2340.Gave.length c2343] (by kernel_rfl) (by kernel_rfl) ?_
  refine (c_l_eqIntS w2351 x2335.Gave p2337 c2338 (h2339.mem0 M2352) x2340.Gave p2342 c2343 (h2344.mem0 M2352) hr2355).mono ?_
  rintro e_ w2356 ⟨rfl, K2357⟩
  have M2358 := M2352.call0 K2357
  refine ⟨_, rfl, ?_⟩
  refine W_run 1 [(20, .bool (!r2355))] w2356 (by kernel_rfl) ?_
  refine W_nil ?_
  refine N_then ?_
  rcases gx_bif hm with ⟨hc2359, hm⟩ | ⟨hc2359, hm⟩
  · refine G_cond_t (b := (!r2355)) hc2359 (by kernel_rfl) ?_
    refine G_seq ?_
    refine G_region ?_
    refine W_run 1 [(4, .bool false)] w2356 (by kernel_rfl) ?_
    refine W_nil ?_
    refine N_then ?_
    refine G_ret ?_
    refine N_then_ret ?_
    obtain rfl := Option.some.inj hm
    refine N_ret [.bool false] (RVs_cons (RV_tmp (by kernel_rfl)) RVs_nil) ?_
    exact ⟨rfl, M2358.pick [] (by kernel_rfl)⟩
  refine G_cond_f (b := (!r2355)) hc2359 (by kernel_rfl) ?_
  refine G_skip ?_
  refine N_then ?_
  refine G_seq ?_
  refine G_region ?_
  refine W_run 1 [(4, .bool true)] w2356 (by kernel_rfl) ?_
  refine W_nil ?_
  refine N_then ?_
  refine G_ret ?_
  obtain rfl := Option.some.inj hm
  refine N_ret [.bool true] (RVs_cons (RV_tmp (by kernel_rfl)) RVs_nil) ?_
  exact ⟨rfl, M2358.pick [] (by kernel_rfl)⟩
theorem c_l_eqBalloonS (w : World) (x2307 : List Balloon) (p2309 : Option Addr) (c2310 : Nat) (h2311 : rdD deepBalloon w x2307 p2309 c2310) (x2312 : List Balloon) (p2314 : Option Addr) (c2315 : Nat) (h2316 : rdD deepBalloon w x2312 p2314 c2315) {r : Bool} (hm : M.l_eqBalloonS x2307 x2312 = some r) :
    Calls Try.prog 19 #[.slice p2309 x2307.length c2310, .slice p2314 x2312.length c2315] w fun e w' => e = .returned (.bool r) ∧ Mem [] w w' [] := by
  unfold M.l_eqBalloonS at hm
  refine C_enter Try.func19 rfl (by kernel_rfl) ?_
  have M0 := Mem.refl [] w
  refine G_seq ?_
  refine G_region ?_
  refine W_run 1 [(0, .slice p2309 x2307.length c2310), (1, .slice p2314 x2312.length c2315)] w (by kernel_rfl) ?_
  refine W_nil ?_
  refine N_then ?_
  refine G_seq ?_
  refine G_seq ?_
  refine G_region ?_
  refine W_run 5 [(0, .slice p2309 x2307.length c2310), (1, .slice p2314 x2312.length c2315), (10, .bool ((x2307.length : Int) != (x2312.length : Int)))] w (by kernel_rfl) ?_
  refine W_nil ?_
  refine N_then ?_
  rcases gx_bif hm with ⟨hc2317, hm⟩ | ⟨hc2317, hm⟩
  · refine G_cond_t (b := ((x2307.length : Int) != (x2312.length : Int))) hc2317 (by kernel_rfl) ?_
    refine G_seq ?_
    refine G_region ?_
    refine W_run 1 [(4, .bool false)] w (by kernel_rfl) ?_
    refine W_nil ?_
    refine N_then ?_
    refine G_ret ?_
    refine N_then_ret ?_
    obtain rfl := Option.some.inj hm
    refine N_ret [.bool false] (RVs_cons (RV_tmp (by kernel_rfl)) RVs_nil) ?_
    exact ⟨rfl, M0.pick [] (by kernel_rfl)⟩
  refine G_cond_f (b := ((x2307.length : Int) != (x2312.length : Int))) hc2317 (by kernel_rfl) ?_
  refine G_skip ?_
  refine N_then ?_
  refine G_seq ?_
  refine G_seq ?_
  refine G_region ?_
  refine W_run 1 [(0, .slice p2309 x2307.length c2310), (1, .slice p2314 x2312.length c2315), (5, .int .i64 0)] w (by kernel_rfl) ?_
  refine W_nil ?_
  refine N_then ?_
  obtain ⟨out2398, hw2399, hmo2400⟩ := gx_bind hm
  refine G_meet (fun a w' => ∃ (o2401 : Unit), out2398 = .inl o2401 ∧ Mem [] w w' [] ∧ Sat Try.f19.ntmps [] a) ?_ ?_
  · refine G_block ?_
    refine G_while (σ := Int) (ρ := (Unit) ⊕ (Bool)) (fun s2391 a w' => Mem [] w w' [] ∧ Sat Try.f19.ntmps [(0, .slice p2309 x2307.length c2310), (1, .slice p2314 x2312.length c2315), (5, .int .i64 s2391)] a) hw2399 (fun a ha => ⟨M0.pick [] (by kernel_rfl), ha.sub (by kernel_rfl)⟩) ?_
    clear hm
    intro s2391 x2392 hm hout2393 a2394 w2395 ⟨M2396, hS2397⟩
    refine G_use hS2397 ?_
    refine G_seq ?_
    refine G_seq ?_
    refine G_region ?_
    refine W_run 4 [(0, .slice p2309 x2307.length c2310), (1, .slice p2314 x2312.length c2315), (5, .int .i64 s2391), (14, .bool (decide (s2391 < (x2307.length : Int))))] w2395 (by kernel_rfl) ?_
    refine W_nil ?_
    refine N_then ?_
    rcases gx_bif hm with ⟨hc2402, hm⟩ | ⟨hc2402, hm⟩
    · refine G_cond_t (b := (decide (s2391 < (x2307.length : Int)))) hc2402 (by kernel_rfl) ?_
      refine G_skip ?_
      refine N_then ?_
      refine G_seq ?_
      refine G_block ?_
      refine G_seq ?_
      refine G_quiet (by kernel_rfl) (by kernel_rfl) M2396 ?_
      refine Z_runs [.slice p2309 x2307.length c2310, .int .i64 s2391] [(0, .slice p2309 x2307.length c2310), (1, .slice p2314 x2312.length c2315), (5, .int .i64 s2391), (17, .slice p2309 x2307.length c2310), (18, .int .i64 s2391)] (fun w_ => by kernel_rfl) (by kernel_rfl) ?_
      obtain ⟨y2403, hy2403, hm⟩ := gx_bind hm
      obtain ⟨zs2404, hz2405, hr2406, hi2407⟩ := id h2311
      obtain ⟨g2408, hg2409⟩ := gxIdx_fst hz2405 hy2403
      refine Z_val (elemP p2309 (s2391.toNat * 3)) (by kernel_rfl) (fun w_ M_ => (E_index (E := deepBalloon.E) _ _ _ x2307.length c2310 .i64 s2391 3 (y := (y2403, g2408)) rfl (by kernel_rfl) (by kernel_rfl) (by kernel_rfl) (hr2406.mem0 M_) (len_fst hz2405) hg2409)) ?_
      refine Z_val (.agg #[.int .i64 y2403.Guest, .int .i64 y2403.Goal, .slice ((g2408 0).1) y2403.Gave.length ((g2408 0).2)]) (by kernel_rfl) (fun w_ M_ => (E_loadE (E := deepBalloon.E) _ _ true 3 s2391 0 (s2391.toNat * 3) (y2403, g2408) (.agg #[.int .i64 y2403.Guest, .int .i64 y2403.Goal, .slice ((g2408 0).1) y2403.Gave.length ((g2408 0).2)]) rfl (by kernel_rfl) (by kernel_rfl) (by kernel_rfl) (hr2406.mem0 M_) hg2409 rfl)) ?_
      refine Z_runs [.slice p2314 x2312.length c2315, .int .i64 s2391] [(0, .slice p2309 x2307.length c2310), (1, .slice p2314 x2312.length c2315), (5, .int .i64 s2391), (20, .agg #[.int .i64 y2403.Guest, .int .i64 y2403.Goal, .slice ((g2408 0).1) y2403.Gave.length ((g2408 0).2)]), (21, .slice p2314 x2312.length c2315), (22, .int .i64 s2391)] (fun w_ => by kernel_rfl) (by kernel_rfl) ?_
      obtain ⟨y2411, hy2411, hm⟩ := gx_bind hm
      obtain ⟨zs2412, hz2413, hr2414, hi2415⟩ := id h2316
      obtain ⟨g2416, hg2417⟩ := gxIdx_fst hz2413 hy2411
      refine Z_val (elemP p2314 (s2391.toNat * 3)) (by kernel_rfl) (fun w_ M_ => (E_index (E := deepBalloon.E) _ _ _ x2312.length c2315 .i64 s2391 3 (y := (y2411, g2416)) rfl (by kernel_rfl) (by kernel_rfl) (by kernel_rfl) (hr2414.mem0 M_) (len_fst hz2413) hg2417)) ?_
      refine Z_val (.agg #[.int .i64 y2411.Guest, .int .i64 y2411.Goal, .slice ((g2416 0).1) y2411.Gave.length ((g2416 0).2)]) (by kernel_rfl) (fun w_ M_ => (E_loadE (E := deepBalloon.E) _ _ true 3 s2391 0 (s2391.toNat * 3) (y2411, g2416) (.agg #[.int .i64 y2411.Guest, .int .i64 y2411.Goal, .slice ((g2416 0).1) y2411.Gave.length ((g2416 0).2)]) rfl (by kernel_rfl) (by kernel_rfl) (by kernel_rfl) (hr2414.mem0 M_) hg2417 rfl)) ?_
      obtain ⟨r2419, hr2419, hm⟩ := gx_bind hm
      refine Z_call 54 #[.agg #[.int .i64 y2403.Guest, .int .i64 y2403.Goal, .slice ((g2408 0).1) y2403.Gave.length ((g2408 0).2)], .agg #[.int .i64 y2411.Guest, .int .i64 y2411.Goal, .slice ((g2416 0).1) y2411.Gave.length ((g2416 0).2)]] (.bool r2419) (by kernel_rfl) (fun w_ => by kernel_rfl) (fun w_ M_ => (c_l_eqBalloon w_ y2403 ((g2408 0).1) ((g2408 0).2) ((hi2407.mem0 M_).at_ hg2409 0 ⟨Int, Gx.encI, y2403.Gave, (g2408 0).1, (g2408 0).2⟩ (by kernel_rfl)) y2411 ((g2416 0).1) ((g2416 0).2) ((hi2415.mem0 M_).at_ hg2417 0 ⟨Int, Gx.encI, y2411.Gave, (g2416 0).1, (g2416 0).2⟩ (by kernel_rfl)) hr2419).mono fun e w2_ h_ => ⟨h_.1, M_.call0 h_.2⟩) ?_
      refine Z_runs [.bool (!r2419)] [(0, .slice p2309 x2307.length c2310), (1, .slice p2314 x2312.length c2315), (5, .int .i64 s2391), (26, .bool (!r2419))] (fun w_ => by kernel_rfl) (by kernel_rfl) ?_
      refine Z_end fun w2423 M2424 => ?_
      refine N_then ?_
      rcases gx_bif hm with ⟨hc2425, hm⟩ | ⟨hc2425, hm⟩
      · refine G_cond_t (b := (!r2419)) hc2425 (by kernel_rfl) ?_
        refine G_seq ?_
        refine G_region ?_
        refine W_run 1 [(4, .bool false)] w2423 (by kernel_rfl) ?_
        refine W_nil ?_
        refine N_then ?_
        refine G_ret ?_
        refine N_block_ret ?_
        refine N_then_ret ?_
        refine N_then_ret ?_
        obtain rfl := Option.some.inj hm
        obtain rfl := hout2393 _ rfl
        have hm := hmo2400; simp only [Sum.elim_inr] at hm
        refine N_block_ret ?_
        refine N_meet_ret ?_
        refine N_then_ret ?_
        obtain rfl := Option.some.inj hm
        refine N_ret [.bool false] (RVs_cons (RV_tmp (by kernel_rfl)) RVs_nil) ?_
        exact ⟨rfl, M2424.pick [] (by kernel_rfl)⟩
      refine G_cond_f (b := (!r2419)) hc2425 (by kernel_rfl) ?_
      refine G_skip ?_
      refine N_block ?_
      refine N_then ?_
      refine G_region ?_
      refine W_run 3 [(0, .slice p2309 x2307.length c2310), (1, .slice p2314 x2312.length c2315), (5, .int .i64 (w64 (s2391 + 1)))] w2423 (by kernel_rfl) ?_
      refine W_nil ?_
      obtain rfl := Option.some.inj hm
      exact N_loop fun a ha => ⟨_, rfl, M2424.pick [] (by kernel_rfl), ha.sub (by kernel_rfl)⟩
    refine G_cond_f (b := (decide (s2391 < (x2307.length : Int)))) hc2402 (by kernel_rfl) ?_
    refine G_exit ?_
    refine N_then_exit ?_
    refine N_then_exit ?_
    refine N_block_eq ?_
    obtain rfl := Option.some.inj hm
    obtain rfl := hout2393 _ rfl
    exact N_meet fun a ha => ⟨_, rfl, M2396.pick [] (by kernel_rfl), ha.sub (by kernel_rfl)⟩
  intro a2426 w2427 ⟨o2401, hout_, M2428, hS2429⟩
  refine N_use hS2429 ?_
  subst hout_
  have hm := hmo2400; simp only [Sum.elim_inl] at hm
  refine N_then ?_
  refine G_seq ?_
  refine G_region ?_
  refine W_run 1 [(4, .bool true)] w2427 (by kernel_rfl) ?_
  refine W_nil ?_
  refine N_then ?_
  refine G_ret ?_
  obtain rfl := Option.some.inj hm
  refine N_ret [.bool true] (RVs_cons (RV_tmp (by kernel_rfl)) RVs_nil) ?_
  exact ⟨rfl, M2428.pick [] (by kernel_rfl)⟩
theorem c_l_FnExactAreBalloons (w : World) (x1 : List Int) (p3 : Option Addr) (c4 : Nat) (h5 : rdS Gx.encI w x1 p3 c4) (x6 : List Balloon) (p8 : Option Addr) (c9 : Nat) (h10 : rdD deepBalloon w x6 p8 c9) {r : Bool} (hm : M.l_FnExactAreBalloons x1 x6 = some r) :
    Calls Try.prog 3 #[.slice p3 x1.length c4, .slice p8 x6.length c9] w fun e w' => e = .returned (.bool r) ∧ Mem [] w w' [] := by
  unfold M.l_FnExactAreBalloons at hm
  refine C_enter Try.func3 rfl (by kernel_rfl) ?_
  have M0 := Mem.refl [] w
  refine G_seq ?_
  refine G_region ?_
  refine W_run 1 [(0, .slice p3 x1.length c4), (1, .slice p8 x6.length c9)] w (by kernel_rfl) ?_
  refine W_nil ?_
  refine N_then ?_
  refine G_seq ?_
  refine G_seq ?_
  refine G_region ?_
  refine W_run 3 [(0, .slice p3 x1.length c4), (1, .slice p8 x6.length c9), (12, .bool (decide ((x1.length : Int) > 1048576)))] w (by kernel_rfl) ?_
  refine W_nil ?_
  refine N_then ?_
  rcases gx_bif hm with ⟨hc11, hm⟩ | ⟨hc11, hm⟩
  · refine G_cond_t (b := (decide ((x1.length : Int) > 1048576))) hc11 (by kernel_rfl) ?_
    refine G_seq ?_
    refine G_region ?_
    refine W_run 1 [(4, .bool true)] w (by kernel_rfl) ?_
    refine W_nil ?_
    refine N_then ?_
    refine G_ret ?_
    refine N_then_ret ?_
    obtain rfl := Option.some.inj hm
    refine N_ret [.bool true] (RVs_cons (RV_tmp (by kernel_rfl)) RVs_nil) ?_
    exact ⟨rfl, M0.pick [] (by kernel_rfl)⟩
  refine G_cond_f (b := (decide ((x1.length : Int) > 1048576))) hc11 (by kernel_rfl) ?_
  refine G_skip ?_
  refine N_then ?_
  refine G_seq ?_
  refine G_region ?_
  refine W_run 1 [(0, .slice p3 x1.length c4), (1, .slice p8 x6.length c9), (5, .int .i64 1048576)] w (by kernel_rfl) ?_
  refine W_nil ?_
  refine N_then ?_
  refine G_seq ?_
  refine G_region ?_
  refine W_run 2 [(0, .slice p3 x1.length c4), (1, .slice p8 x6.length c9), (5, .int .i64 1048576), (13, .slice p8 x6.length c9), (14, .int .i64 1048576)] w (by kernel_rfl) ?_
  obtain ⟨r98, hr98, hm⟩ := gx_bind hm
  refine W_call 13 #[.slice p8 x6.length c9, .int .i64 1048576] (by kernel_rfl) (by kernel_rfl) ?_
  refine (c_l_szBalloonS w x6 p8 c9 (h10.mem0 M0) 1048576 hr98).mono ?_
  rintro e_ w99 ⟨rfl, K100⟩
  have M101 := M0.call0 K100
  refine ⟨_, rfl, ?_⟩
  refine W_run 1 [(0, .slice p3 x1.length c4), (1, .slice p8 x6.length c9), (5, .int .i64 r98)] w99 (by kernel_rfl) ?_
  refine W_nil ?_
  refine N_then ?_
  refine G_seq ?_
  refine G_seq ?_
  refine G_region ?_
  refine W_run 2 [(0, .slice p3 x1.length c4), (1, .slice p8 x6.length c9), (17, .bool (decide (r98 < 0)))] w99 (by kernel_rfl) ?_
  refine W_nil ?_
  refine N_then ?_
  rcases gx_bif hm with ⟨hc102, hm⟩ | ⟨hc102, hm⟩
  · refine G_cond_t (b := (decide (r98 < 0))) hc102 (by kernel_rfl) ?_
    refine G_seq ?_
    refine G_region ?_
    refine W_run 1 [(4, .bool true)] w99 (by kernel_rfl) ?_
    refine W_nil ?_
    refine N_then ?_
    refine G_ret ?_
    refine N_then_ret ?_
    obtain rfl := Option.some.inj hm
    refine N_ret [.bool true] (RVs_cons (RV_tmp (by kernel_rfl)) RVs_nil) ?_
    exact ⟨rfl, M101.pick [] (by kernel_rfl)⟩
  refine G_cond_f (b := (decide (r98 < 0))) hc102 (by kernel_rfl) ?_
  refine G_skip ?_
  refine N_then ?_
  refine G_seq ?_
  refine G_region ?_
  refine W_run 1 [(0, .slice p3 x1.length c4), (1, .slice p8 x6.length c9), (18, .slice p3 x1.length c4)] w99 (by kernel_rfl) ?_
  obtain ⟨r163, hr163, hm⟩ := gx_bind hm
  refine W_call 15 #[.slice p3 x1.length c4] (by kernel_rfl) (by kernel_rfl) ?_
  refine (c_l_toIntS w99 x1 p3 c4 (h5.mem0 M101) hr163).mono ?_
  rintro e_ w169 ⟨p165, c166, sg167, rfl, ho168, K170⟩
  have M171 := M101.call K170
  refine ⟨_, rfl, ?_⟩
  refine W_run 1 [(0, .slice p3 x1.length c4), (1, .slice p8 x6.length c9), (19, .slice p165 r163.length c166), (20, .slice p8 x6.length c9)] w169 (by kernel_rfl) ?_
  obtain ⟨r381, hr381, hm⟩ := gx_bind hm
  refine W_call 16 #[.slice p8 x6.length c9] (by kernel_rfl) (by kernel_rfl) ?_
  refine (c_l_toBalloonS w169 x6 p8 c9 (h10.mem0 M171) hr381).mono ?_
  rintro e_ w388 ⟨p383, c384, sg385, sg386, rfl, ho387, K389⟩
  have M390 := M171.call K389
  refine ⟨_, rfl, ?_⟩
  obtain ⟨r1248, hr1248, hm⟩ := gx_bind hm
  refine W_call 14 #[.slice p165 r163.length c166, .slice p383 r381.length c384] (by kernel_rfl) (by kernel_rfl) ?_
  refine (c_s_AreBalloons w388 r163 p165 c166 (ho168.rd M390 0 (by kernel_rfl)) r381 p383 c384 (ho387.rd M390 1 (by kernel_rfl) 2 (by kernel_rfl)) hr1248).mono ?_
  rintro e_ w1249 ⟨rfl, K1250⟩
  have M1251 := M390.call0 K1250
  refine ⟨_, rfl, ?_⟩
  refine W_run 1 [(0, .slice p3 x1.length c4), (1, .slice p8 x6.length c9), (6, .bool r1248)] w1249 (by kernel_rfl) ?_
  refine W_nil ?_
  refine N_then ?_
  refine G_seq ?_
  refine G_region ?_
  refine W_run 1 [(0, .slice p3 x1.length c4), (1, .slice p8 x6.length c9), (6, .bool r1248), (23, .slice p3 x1.length c4)] w1249 (by kernel_rfl) ?_
  obtain ⟨r1252, hr1252, hm⟩ := gx_bind hm
  refine W_call 15 #[.slice p3 x1.length c4] (by kernel_rfl) (by kernel_rfl) ?_
  refine (c_l_toIntS w1249 x1 p3 c4 (h5.mem0 M1251) hr1252).mono ?_
  rintro e_ w1258 ⟨p1254, c1255, sg1256, rfl, ho1257, K1259⟩
  have M1260 := M1251.call K1259
  refine ⟨_, rfl, ?_⟩
  refine W_run 1 [(0, .slice p3 x1.length c4), (1, .slice p8 x6.length c9), (6, .bool r1248), (7, .slice p1254 r1252.length c1255)] w1258 (by kernel_rfl) ?_
  refine W_nil ?_
  refine N_then ?_
  refine G_seq ?_
  refine G_region ?_
  refine W_run 1 [(0, .slice p3 x1.length c4), (1, .slice p8 x6.length c9), (6, .bool r1248), (7, .slice p1254 r1252.length c1255), (25, .slice p8 x6.length c9)] w1258 (by kernel_rfl) ?_
  obtain ⟨r1261, hr1261, hm⟩ := gx_bind hm
  refine W_call 16 #[.slice p8 x6.length c9] (by kernel_rfl) (by kernel_rfl) ?_
  refine (c_l_toBalloonS w1258 x6 p8 c9 (h10.mem0 M1260) hr1261).mono ?_
  rintro e_ w1268 ⟨p1263, c1264, sg1265, sg1266, rfl, ho1267, K1269⟩
  have M1270 := M1260.call K1269
  refine ⟨_, rfl, ?_⟩
  refine W_run 1 [(0, .slice p3 x1.length c4), (1, .slice p8 x6.length c9), (6, .bool r1248), (7, .slice p1254 r1252.length c1255), (8, .slice p1263 r1261.length c1264)] w1268 (by kernel_rfl) ?_
  refine W_nil ?_
  refine N_then ?_
  refine G_seq ?_
  refine G_region ?_
  refine W_run 2 [(0, .slice p3 x1.length c4), (1, .slice p8 x6.length c9), (6, .bool r1248), (7, .slice p1254 r1252.length c1255), (8, .slice p1263 r1261.length c1264), (27, .slice p1254 r1252.length c1255), (28, .slice p1263 r1261.length c1264)] w1268 (by kernel_rfl) ?_
  obtain ⟨r2234, hr2234, hm⟩ := gx_bind hm
  refine W_call 17 #[.slice p1254 r1252.length c1255, .slice p1263 r1261.length c1264] (by kernel_rfl) (by kernel_rfl) ?_
  refine (c_i_AreBalloons w1268 r1252 p1254 c1255 (ho1257.rd M1270 3 (by kernel_rfl)) r1261 p1263 c1264 (ho1267.rd M1270 4 (by kernel_rfl) 5 (by kernel_rfl)) hr2234).mono ?_
  rintro e_ w2235 ⟨rfl, K2236⟩
  have M2237 := M1270.call0 K2236
  refine ⟨_, rfl, ?_⟩
  refine W_run 1 [(0, .slice p3 x1.length c4), (1, .slice p8 x6.length c9), (6, .bool r1248), (7, .slice p1254 r1252.length c1255), (8, .slice p1263 r1261.length c1264), (9, .bool r2234)] w2235 (by kernel_rfl) ?_
  refine W_nil ?_
  refine N_then ?_
  refine G_seq ?_
  refine G_seq ?_
  refine G_region ?_
  refine W_run 3 [(0, .slice p3 x1.length c4), (1, .slice p8 x6.length c9), (7, .slice p1254 r1252.length c1255), (8, .slice p1263 r1261.length c1264), (32, .bool (!(r2234 == r1248)))] w2235 (by kernel_rfl) ?_
  refine W_nil ?_
  refine N_then ?_
  rcases gx_bif hm with ⟨hc2238, hm⟩ | ⟨hc2238, hm⟩
  · refine G_cond_t (b := (!(r2234 == r1248))) hc2238 (by kernel_rfl) ?_
    refine G_seq ?_
    refine G_region ?_
    refine W_run 1 [(4, .bool false)] w2235 (by kernel_rfl) ?_
    refine W_nil ?_
    refine N_then ?_
    refine G_ret ?_
    refine N_then_ret ?_
    obtain rfl := Option.some.inj hm
    refine N_ret [.bool false] (RVs_cons (RV_tmp (by kernel_rfl)) RVs_nil) ?_
    exact ⟨rfl, M2237.pick [] (by kernel_rfl)⟩
  refine G_cond_f (b := (!(r2234 == r1248))) hc2238 (by kernel_rfl) ?_
  refine G_skip ?_
  refine N_then ?_
  refine G_seq ?_
  refine G_seq ?_
  refine G_region ?_
  refine W_run 2 [(1, .slice p8 x6.length c9), (8, .slice p1263 r1261.length c1264), (33, .slice p1254 r1252.length c1255), (34, .slice p3 x1.length c4)] w2235 (by kernel_rfl) ?_
  obtain ⟨r2239, hr2239, hm⟩ := gx_bind hm
  refine W_call 15 #[.slice p3 x1.length c4] (by kernel_rfl) (by kernel_rfl) ?_
  refine (c_l_toIntS w2235 x1 p3 c4 (h5.mem0 M2237) hr2239).mono ?_
  rintro e_ w2245 ⟨p2241, c2242, sg2243, rfl, ho2244, K2246⟩
  have M2247 := M2237.call K2246
  refine ⟨_, rfl, ?_⟩
  obtain ⟨r2292, hr2292, hm⟩ := gx_bind hm
  refine W_call 18 #[.slice p1254 r1252.length c1255, .slice p2241 r2239.length c2242] (by kernel_rfl) (by kernel_rfl) ?_
  refine (c_l_eqIntS w2245 r1252 p1254 c1255 (ho1257.rd M2247 3 (by kernel_rfl)) r2239 p2241 c2242 (ho2244.rd M2247 6 (by kernel_rfl)) hr2292).mono ?_
  rintro e_ w2293 ⟨rfl, K2294⟩
  have M2295 := M2247.call0 K2294
  refine ⟨_, rfl, ?_⟩
  refine W_run 1 [(1, .slice p8 x6.length c9), (8, .slice p1263 r1261.length c1264), (37, .bool (!r2292))] w2293 (by kernel_rfl) ?_
  refine W_nil ?_
  refine N_then ?_
  rcases gx_bif hm with ⟨hc2296, hm⟩ | ⟨hc2296, hm⟩
  · refine G_cond_t (b := (!r2292)) hc2296 (by kernel_rfl) ?_
    refine G_seq ?_
    refine G_region ?_
    refine W_run 1 [(4, .bool false)] w2293 (by kernel_rfl) ?_
    refine W_nil ?_
    refine N_then ?_
    refine G_ret ?_
    refine N_then_ret ?_
    obtain rfl := Option.some.inj hm
    refine N_ret [.bool false] (RVs_cons (RV_tmp (by kernel_rfl)) RVs_nil) ?_
    exact ⟨rfl, M2295.pick [] (by kernel_rfl)⟩
  refine G_cond_f (b := (!r2292)) hc2296 (by kernel_rfl) ?_
  refine G_skip ?_
  refine N_then ?_
  refine G_seq ?_
  refine G_seq ?_
  refine G_region ?_
  refine W_run 2 [(38, .slice p1263 r1261.length c1264), (39, .slice p8 x6.length c9)] w2293 (by kernel_rfl) ?_
  obtain ⟨r2297, hr2297, hm⟩ := gx_bind hm
  refine W_call 16 #[.slice p8 x6.length c9] (by kernel_rfl) (by kernel_rfl) ?_
  refine (c_l_toBalloonS w2293 x6 p8 c9 (h10.mem0 M2295) hr2297).mono ?_
  rintro e_ w2304 ⟨p2299, c2300, sg2301, sg2302, rfl, ho2303, K2305⟩
  have M2306 := M2295.call K2305
  refine ⟨_, rfl, ?_⟩
  obtain ⟨r2430, hr2430, hm⟩ := gx_bind hm
  refine W_call 19 #[.slice p1263 r1261.length c1264, .slice p2299 r2297.length c2300] (by kernel_rfl) (by kernel_rfl) ?_
  refine (c_l_eqBalloonS w2304 r1261 p1263 c1264 (ho1267.rd M2306 4 (by kernel_rfl) 5 (by kernel_rfl)) r2297 p2299 c2300 (ho2303.rd M2306 7 (by kernel_rfl) 8 (by kernel_rfl)) hr2430).mono ?_
  rintro e_ w2431 ⟨rfl, K2432⟩
  have M2433 := M2306.call0 K2432
  refine ⟨_, rfl, ?_⟩
  refine W_run 1 [(42, .bool (!r2430))] w2431 (by kernel_rfl) ?_
  refine W_nil ?_
  refine N_then ?_
  rcases gx_bif hm with ⟨hc2434, hm⟩ | ⟨hc2434, hm⟩
  · refine G_cond_t (b := (!r2430)) hc2434 (by kernel_rfl) ?_
    refine G_seq ?_
    refine G_region ?_
    refine W_run 1 [(4, .bool false)] w2431 (by kernel_rfl) ?_
    refine W_nil ?_
    refine N_then ?_
    refine G_ret ?_
    refine N_then_ret ?_
    obtain rfl := Option.some.inj hm
    refine N_ret [.bool false] (RVs_cons (RV_tmp (by kernel_rfl)) RVs_nil) ?_
    exact ⟨rfl, M2433.pick [] (by kernel_rfl)⟩
  refine G_cond_f (b := (!r2430)) hc2434 (by kernel_rfl) ?_
  refine G_skip ?_
  refine N_then ?_
  refine G_seq ?_
  refine G_region ?_
  refine W_run 1 [(4, .bool true)] w2431 (by kernel_rfl) ?_
  refine W_nil ?_
  refine N_then ?_
  refine G_ret ?_
  obtain rfl := Option.some.inj hm
  refine N_ret [.bool true] (RVs_cons (RV_tmp (by kernel_rfl)) RVs_nil) ?_
  exact ⟨rfl, M2433.pick [] (by kernel_rfl)⟩
theorem c_s_l1Most (w : World) (x2502 : Int) (x2503 : Int) {r : Int} (hm : M.s_l1Most x2502 x2503 = some r) :
    Calls Try.prog 55 #[.int .i64 x2502, .int .i64 x2503] w fun e w' => e = .returned (.int .i64 r) ∧ Mem [] w w' [] := by
  unfold M.s_l1Most at hm
  refine C_enter Try.func55 rfl (by kernel_rfl) ?_
  have M0 := Mem.refl [] w
  refine G_seq ?_
  refine G_region ?_
  refine W_run 1 [(0, .int .i64 x2502), (1, .int .i64 x2503)] w (by kernel_rfl) ?_
  refine W_nil ?_
  refine N_then ?_
  refine G_seq ?_
  refine G_seq ?_
  refine G_region ?_
  refine W_run 3 [(0, .int .i64 x2502), (1, .int .i64 x2503), (7, .bool (decide (x2502 > x2503)))] w (by kernel_rfl) ?_
  refine W_nil ?_
  refine N_then ?_
  rcases gx_bif hm with ⟨hc2504, hm⟩ | ⟨hc2504, hm⟩
  · refine G_cond_t (b := (decide (x2502 > x2503))) hc2504 (by kernel_rfl) ?_
    refine G_seq ?_
    refine G_region ?_
    refine W_run 2 [(4, .int .i64 x2502)] w (by kernel_rfl) ?_
    refine W_nil ?_
    refine N_then ?_
    refine G_ret ?_
    refine N_then_ret ?_
    obtain rfl := Option.some.inj hm
    refine N_ret [.int .i64 x2502] (RVs_cons (RV_tmp (by kernel_rfl)) RVs_nil) ?_
    exact ⟨rfl, M0.pick [] (by kernel_rfl)⟩
  refine G_cond_f (b := (decide (x2502 > x2503))) hc2504 (by kernel_rfl) ?_
  refine G_skip ?_
  refine N_then ?_
  refine G_seq ?_
  refine G_region ?_
  refine W_run 2 [(4, .int .i64 x2503)] w (by kernel_rfl) ?_
  refine W_nil ?_
  refine N_then ?_
  refine G_ret ?_
  obtain rfl := Option.some.inj hm
  refine N_ret [.int .i64 x2503] (RVs_cons (RV_tmp (by kernel_rfl)) RVs_nil) ?_
  exact ⟨rfl, M0.pick [] (by kernel_rfl)⟩
theorem c_s_GivenFrames (w : World) (x2470 : List Int) (p2472 : Option Addr) (c2473 : Nat) (h2474 : rdS Gx.encI w x2470 p2472 c2473) (x2475 : List Balloon) (p2477 : Option Addr) (c2478 : Nat) (h2479 : rdD deepBalloon w x2475 p2477 c2478) {r : Int × Int × Bool} (hm : M.s_GivenFrames x2470 x2475 = some r) :
    Calls Try.prog 20 #[.slice p2472 x2470.length c2473, .slice p2477 x2475.length c2478] w fun e w' => e = .returned (.tuple #[.int .i64 r.1, .int .i64 r.2.1, .bool r.2.2]) ∧ Mem [] w w' [] := by
  unfold M.s_GivenFrames at hm
  refine C_enter Try.func20 rfl (by kernel_rfl) ?_
  have M0 := Mem.refl [] w
  refine G_seq ?_
  refine G_region ?_
  refine W_run 3 [(0, .slice p2472 x2470.length c2473), (1, .slice p2477 x2475.length c2478)] w (by kernel_rfl) ?_
  refine W_nil ?_
  refine N_then ?_
  refine G_seq ?_
  refine G_seq ?_
  refine G_region ?_
  refine W_run 2 [(1, .slice p2477 x2475.length c2478), (10, .slice p2472 x2470.length c2473), (11, .slice p2477 x2475.length c2478)] w (by kernel_rfl) ?_
  obtain ⟨r2480, hr2480, hm⟩ := gx_bind hm
  refine W_call 47 #[.slice p2472 x2470.length c2473, .slice p2477 x2475.length c2478] (by kernel_rfl) (by kernel_rfl) ?_
  refine (c_s_l18Good w x2470 p2472 c2473 (h2474.mem0 M0) x2475 p2477 c2478 (h2479.mem0 M0) hr2480).mono ?_
  rintro e_ w2481 ⟨rfl, K2482⟩
  have M2483 := M0.call0 K2482
  refine ⟨_, rfl, ?_⟩
  refine W_run 1 [(1, .slice p2477 x2475.length c2478), (13, .bool (!r2480))] w2481 (by kernel_rfl) ?_
  refine W_nil ?_
  refine N_then ?_
  rcases gx_bif hm with ⟨hc2484, hm⟩ | ⟨hc2484, hm⟩
  · refine G_cond_t (b := (!r2480)) hc2484 (by kernel_rfl) ?_
    refine G_seq ?_
    refine G_region ?_
    refine W_run 3 [(4, .int .i64 0), (5, .int .i64 0), (6, .bool false)] w2481 (by kernel_rfl) ?_
    refine W_nil ?_
    refine N_then ?_
    refine G_ret ?_
    refine N_then_ret ?_
    obtain rfl := Option.some.inj hm
    refine N_ret [.int .i64 0, .int .i64 0, .bool false] (RVs_cons (RV_tmp (by kernel_rfl)) (RVs_cons (RV_tmp (by kernel_rfl)) (RVs_cons (RV_tmp (by kernel_rfl)) RVs_nil))) ?_
    exact ⟨rfl, M2483.pick [] (by kernel_rfl)⟩
  refine G_cond_f (b := (!r2480)) hc2484 (by kernel_rfl) ?_
  refine G_skip ?_
  refine N_then ?_
  refine G_seq ?_
  refine G_region ?_
  refine W_run 2 [(1, .slice p2477 x2475.length c2478), (7, .int .i64 0), (8, .int .i64 0)] w2481 (by kernel_rfl) ?_
  refine W_nil ?_
  refine N_then ?_
  refine G_seq ?_
  refine G_seq ?_
  refine G_region ?_
  refine W_run 1 [(1, .slice p2477 x2475.length c2478), (7, .int .i64 0), (8, .int .i64 0), (9, .int .i64 0)] w2481 (by kernel_rfl) ?_
  refine W_nil ?_
  refine N_then ?_
  obtain ⟨out2541, hw2542, hmo2543⟩ := gx_bind hm
  refine G_meet (fun a w' => Mem [] w w' [] ∧ Sat Try.f20.ntmps [(7, .int .i64 out2541.1), (8, .int .i64 out2541.2)] a) ?_ ?_
  · refine G_block ?_
    refine G_while (σ := Int × Int × Int) (ρ := Int × Int) (fun s2534 a w' => Mem [] w w' [] ∧ Sat Try.f20.ntmps [(1, .slice p2477 x2475.length c2478), (7, .int .i64 s2534.1), (8, .int .i64 s2534.2.1), (9, .int .i64 s2534.2.2)] a) hw2542 (fun a ha => ⟨M2483.pick [] (by kernel_rfl), ha.sub (by kernel_rfl)⟩) ?_
    clear hm
    intro s2534 x2535 hm hout2536 a2537 w2538 ⟨M2539, hS2540⟩
    refine G_use hS2540 ?_
    refine G_seq ?_
    refine G_seq ?_
    refine G_region ?_
    refine W_run 4 [(1, .slice p2477 x2475.length c2478), (7, .int .i64 s2534.1), (8, .int .i64 s2534.2.1), (9, .int .i64 s2534.2.2), (17, .bool (decide (s2534.2.2 < (x2475.length : Int))))] w2538 (by kernel_rfl) ?_
    refine W_nil ?_
    refine N_then ?_
    rcases gx_bif hm with ⟨hc2545, hm⟩ | ⟨hc2545, hm⟩
    · refine G_cond_t (b := (decide (s2534.2.2 < (x2475.length : Int)))) hc2545 (by kernel_rfl) ?_
      refine G_skip ?_
      refine N_then ?_
      refine G_seq ?_
      refine G_block ?_
      refine G_seq ?_
      refine G_region ?_
      refine W_run 3 [(1, .slice p2477 x2475.length c2478), (7, .int .i64 s2534.1), (8, .int .i64 s2534.2.1), (9, .int .i64 s2534.2.2), (20, .int .i64 s2534.1), (21, .slice p2477 x2475.length c2478), (22, .int .i64 s2534.2.2)] w2538 (by kernel_rfl) ?_
      obtain ⟨y2546, hy2546, hm⟩ := gx_bind hm
      obtain ⟨zs2547, hz2548, hr2549, hi2550⟩ := id h2479
      obtain ⟨g2551, hg2552⟩ := gxIdx_fst hz2548 hy2546
      refine W_val (elemP p2477 (s2534.2.2.toNat * 3)) w2538 (by kernel_rfl) (E_index (E := deepBalloon.E) _ _ _ x2475.length c2478 .i64 s2534.2.2 3 (y := (y2546, g2551)) rfl (by kernel_rfl) (by kernel_rfl) (by kernel_rfl) (hr2549.mem0 M2539) (len_fst hz2548) hg2552) ?_
      refine W_val (elemP p2477 (s2534.2.2.toNat * 3 + 2)) w2538 (by kernel_rfl) (E_fieldE (E := deepBalloon.E) _ _ 2 (s2534.2.2.toNat * 3) 2 rfl (by kernel_rfl) (by kernel_rfl) (hr2549.mem0 M2539) hg2552) ?_
      refine W_val (.slice ((g2551 0).1) y2546.Gave.length ((g2551 0).2)) w2538 (by kernel_rfl) (E_loadE (E := deepBalloon.E) _ _ false 1 s2534.2.2 2 (s2534.2.2.toNat * 3 + 2) (y2546, g2551) (.slice ((g2551 0).1) y2546.Gave.length ((g2551 0).2)) rfl (by kernel_rfl) (by kernel_rfl) (by kernel_rfl) (hr2549.mem0 M2539) hg2552 rfl) ?_
      refine W_run 3 [(1, .slice p2477 x2475.length c2478), (7, .int .i64 (w64 (s2534.1 + (y2546.Gave.length : Int)))), (8, .int .i64 s2534.2.1), (9, .int .i64 s2534.2.2)] w2538 (by kernel_rfl) ?_
      refine W_nil ?_
      refine N_then ?_
      refine G_quiet (by kernel_rfl) (by kernel_rfl) M2539 ?_
      refine Z_runs [.int .i64 s2534.2.1, .slice p2477 x2475.length c2478, .int .i64 s2534.2.2] [(1, .slice p2477 x2475.length c2478), (7, .int .i64 (w64 (s2534.1 + (y2546.Gave.length : Int)))), (8, .int .i64 s2534.2.1), (9, .int .i64 s2534.2.2), (28, .int .i64 s2534.2.1), (29, .slice p2477 x2475.length c2478), (30, .int .i64 s2534.2.2)] (fun w_ => by kernel_rfl) (by kernel_rfl) ?_
      obtain ⟨y2554, hy2554, hm⟩ := gx_bind hm
      obtain ⟨g2555, hg2556⟩ := gxIdx_fst hz2548 hy2554
      refine Z_val (elemP p2477 (s2534.2.2.toNat * 3)) (by kernel_rfl) (fun w_ M_ => (E_index (E := deepBalloon.E) _ _ _ x2475.length c2478 .i64 s2534.2.2 3 (y := (y2554, g2555)) rfl (by kernel_rfl) (by kernel_rfl) (by kernel_rfl) (hr2549.mem0 M_) (len_fst hz2548) hg2556)) ?_
      refine Z_val (elemP p2477 (s2534.2.2.toNat * 3 + 1)) (by kernel_rfl) (fun w_ M_ => (E_fieldE (E := deepBalloon.E) _ _ 1 (s2534.2.2.toNat * 3) 1 rfl (by kernel_rfl) (by kernel_rfl) (hr2549.mem0 M_) hg2556)) ?_
      refine Z_val (.int .i64 y2554.Goal) (by kernel_rfl) (fun w_ M_ => (E_loadE (E := deepBalloon.E) _ _ false 1 s2534.2.2 1 (s2534.2.2.toNat * 3 + 1) (y2554, g2555) (.int .i64 y2554.Goal) rfl (by kernel_rfl) (by kernel_rfl) (by kernel_rfl) (hr2549.mem0 M_) hg2556 rfl)) ?_
      refine Z_runs [.slice p2477 x2475.length c2478, .int .i64 s2534.2.2] [(1, .slice p2477 x2475.length c2478), (7, .int .i64 (w64 (s2534.1 + (y2546.Gave.length : Int)))), (8, .int .i64 s2534.2.1), (9, .int .i64 s2534.2.2), (28, .int .i64 s2534.2.1), (33, .int .i64 y2554.Goal), (34, .slice p2477 x2475.length c2478), (35, .int .i64 s2534.2.2)] (fun w_ => by kernel_rfl) (by kernel_rfl) ?_
      obtain ⟨y2558, hy2558, hm⟩ := gx_bind hm
      obtain ⟨g2559, hg2560⟩ := gxIdx_fst hz2548 hy2558
      refine Z_val (elemP p2477 (s2534.2.2.toNat * 3)) (by kernel_rfl) (fun w_ M_ => (E_index (E := deepBalloon.E) _ _ _ x2475.length c2478 .i64 s2534.2.2 3 (y := (y2558, g2559)) rfl (by kernel_rfl) (by kernel_rfl) (by kernel_rfl) (hr2549.mem0 M_) (len_fst hz2548) hg2560)) ?_
      refine Z_val (elemP p2477 (s2534.2.2.toNat * 3 + 2)) (by kernel_rfl) (fun w_ M_ => (E_fieldE (E := deepBalloon.E) _ _ 2 (s2534.2.2.toNat * 3) 2 rfl (by kernel_rfl) (by kernel_rfl) (hr2549.mem0 M_) hg2560)) ?_
      refine Z_val (.slice ((g2559 0).1) y2558.Gave.length ((g2559 0).2)) (by kernel_rfl) (fun w_ M_ => (E_loadE (E := deepBalloon.E) _ _ false 1 s2534.2.2 2 (s2534.2.2.toNat * 3 + 2) (y2558, g2559) (.slice ((g2559 0).1) y2558.Gave.length ((g2559 0).2)) rfl (by kernel_rfl) (by kernel_rfl) (by kernel_rfl) (hr2549.mem0 M_) hg2560 rfl)) ?_
      refine Z_runs [.int .i64 (y2558.Gave.length : Int), .int .i64 (w64 (y2554.Goal - (y2558.Gave.length : Int)))] [(1, .slice p2477 x2475.length c2478), (7, .int .i64 (w64 (s2534.1 + (y2546.Gave.length : Int)))), (8, .int .i64 s2534.2.1), (9, .int .i64 s2534.2.2), (28, .int .i64 s2534.2.1), (40, .int .i64 (w64 (y2554.Goal - (y2558.Gave.length : Int))))] (fun w_ => by kernel_rfl) (by kernel_rfl) ?_
      obtain ⟨r2562, hr2562, hm⟩ := gx_bind hm
      refine Z_call 55 #[.int .i64 0, .int .i64 (w64 (y2554.Goal - (y2558.Gave.length : Int)))] (.int .i64 r2562) (by kernel_rfl) (fun w_ => by kernel_rfl) (fun w_ M_ => (c_s_l1Most w_ 0 (w64 (y2554.Goal - (y2558.Gave.length : Int))) hr2562).mono fun e w2_ h_ => ⟨h_.1, M_.call0 h_.2⟩) ?_
      refine Z_runs [.int .i64 (w64 (s2534.2.1 + r2562)), .int .i64 (w64 (s2534.2.1 + r2562))] [(1, .slice p2477 x2475.length c2478), (7, .int .i64 (w64 (s2534.1 + (y2546.Gave.length : Int)))), (8, .int .i64 (w64 (s2534.2.1 + r2562))), (9, .int .i64 s2534.2.2)] (fun w_ => by kernel_rfl) (by kernel_rfl) ?_
      refine Z_end fun w2566 M2567 => ?_
      refine N_block ?_
      refine N_then ?_
      refine G_region ?_
      refine W_run 3 [(1, .slice p2477 x2475.length c2478), (7, .int .i64 (w64 (s2534.1 + (y2546.Gave.length : Int)))), (8, .int .i64 (w64 (s2534.2.1 + r2562))), (9, .int .i64 (w64 (s2534.2.2 + 1)))] w2566 (by kernel_rfl) ?_
      refine W_nil ?_
      obtain rfl := Option.some.inj hm
      exact N_loop fun a ha => ⟨_, rfl, M2567.pick [] (by kernel_rfl), ha.sub (by kernel_rfl)⟩
    refine G_cond_f (b := (decide (s2534.2.2 < (x2475.length : Int)))) hc2545 (by kernel_rfl) ?_
    refine G_exit ?_
    refine N_then_exit ?_
    refine N_then_exit ?_
    refine N_block_eq ?_
    obtain rfl := Option.some.inj hm
    obtain rfl := hout2536 _ rfl
    exact N_meet fun a ha => ⟨M2539.pick [] (by kernel_rfl), ha.sub (by kernel_rfl)⟩
  intro a2568 w2569 ⟨M2570, hS2571⟩
  refine N_use hS2571 ?_
  have hm := hmo2543
  refine N_then ?_
  refine G_seq ?_
  refine G_region ?_
  refine W_run 5 [(4, .int .i64 out2541.1), (5, .int .i64 out2541.2), (6, .bool true)] w2569 (by kernel_rfl) ?_
  refine W_nil ?_
  refine N_then ?_
  refine G_ret ?_
  obtain rfl := Option.some.inj hm
  refine N_ret [.int .i64 out2541.1, .int .i64 out2541.2, .bool true] (RVs_cons (RV_tmp (by kernel_rfl)) (RVs_cons (RV_tmp (by kernel_rfl)) (RVs_cons (RV_tmp (by kernel_rfl)) RVs_nil))) ?_
  exact ⟨rfl, M2570.pick [] (by kernel_rfl)⟩
theorem c_i_GivenFrames (w : World) (x2595 : List Int) (p2597 : Option Addr) (c2598 : Nat) (h2599 : rdS Gx.encI w x2595 p2597 c2598) (x2600 : List Balloon) (p2602 : Option Addr) (c2603 : Nat) (h2604 : rdD deepBalloon w x2600 p2602 c2603) {r : Int × Int × Bool} (hm : M.i_GivenFrames x2595 x2600 = some r) :
    Calls Try.prog 21 #[.slice p2597 x2595.length c2598, .slice p2602 x2600.length c2603] w fun e w' => e = .returned (.tuple #[.int .i64 r.1, .int .i64 r.2.1, .bool r.2.2]) ∧ Mem [] w w' [] := by
  unfold M.i_GivenFrames at hm
  refine C_enter Try.func21 rfl (by kernel_rfl) ?_
  have M0 := Mem.refl [] w
  refine G_seq ?_
  refine G_region ?_
  refine W_run 3 [(0, .slice p2597 x2595.length c2598), (1, .slice p2602 x2600.length c2603)] w (by kernel_rfl) ?_
  refine W_nil ?_
  refine N_then ?_
  refine G_seq ?_
  refine G_seq ?_
  refine G_region ?_
  refine W_run 2 [(1, .slice p2602 x2600.length c2603), (11, .slice p2597 x2595.length c2598), (12, .slice p2602 x2600.length c2603)] w (by kernel_rfl) ?_
  obtain ⟨r2605, hr2605, hm⟩ := gx_bind hm
  refine W_call 17 #[.slice p2597 x2595.length c2598, .slice p2602 x2600.length c2603] (by kernel_rfl) (by kernel_rfl) ?_
  refine (c_i_AreBalloons w x2595 p2597 c2598 (h2599.mem0 M0) x2600 p2602 c2603 (h2604.mem0 M0) hr2605).mono ?_
  rintro e_ w2606 ⟨rfl, K2607⟩
  have M2608 := M0.call0 K2607
  refine ⟨_, rfl, ?_⟩
  refine W_run 1 [(1, .slice p2602 x2600.length c2603), (14, .bool (!r2605))] w2606 (by kernel_rfl) ?_
  refine W_nil ?_
  refine N_then ?_
  rcases gx_bif hm with ⟨hc2609, hm⟩ | ⟨hc2609, hm⟩
  · refine G_cond_t (b := (!r2605)) hc2609 (by kernel_rfl) ?_
    refine G_seq ?_
    refine G_region ?_
    refine W_run 3 [(4, .int .i64 0), (5, .int .i64 0), (6, .bool false)] w2606 (by kernel_rfl) ?_
    refine W_nil ?_
    refine N_then ?_
    refine G_ret ?_
    refine N_then_ret ?_
    obtain rfl := Option.some.inj hm
    refine N_ret [.int .i64 0, .int .i64 0, .bool false] (RVs_cons (RV_tmp (by kernel_rfl)) (RVs_cons (RV_tmp (by kernel_rfl)) (RVs_cons (RV_tmp (by kernel_rfl)) RVs_nil))) ?_
    exact ⟨rfl, M2608.pick [] (by kernel_rfl)⟩
  refine G_cond_f (b := (!r2605)) hc2609 (by kernel_rfl) ?_
  refine G_skip ?_
  refine N_then ?_
  refine G_seq ?_
  refine G_region ?_
  refine W_run 2 [(1, .slice p2602 x2600.length c2603), (7, .int .i64 0), (8, .int .i64 0)] w2606 (by kernel_rfl) ?_
  refine W_nil ?_
  refine N_then ?_
  refine G_seq ?_
  refine G_seq ?_
  refine G_region ?_
  refine W_run 3 [(7, .int .i64 0), (8, .int .i64 0), (15, .slice p2602 x2600.length c2603), (16, .int .i64 (x2600.length : Int)), (17, .int .i64 0)] w2606 (by kernel_rfl) ?_
  refine W_nil ?_
  refine N_then ?_
  obtain ⟨out2649, hw2650, hmo2651⟩ := gx_bind hm
  refine G_meet (fun a w' => Mem [] w w' [] ∧ Sat Try.f21.ntmps [(7, .int .i64 out2649.1), (8, .int .i64 out2649.2)] a) ?_ ?_
  · refine G_block ?_
    refine G_while (σ := Int × Int × Int) (ρ := Int × Int) (fun s2642 a w' => Mem [] w w' [] ∧ Sat Try.f21.ntmps [(7, .int .i64 s2642.1), (8, .int .i64 s2642.2.1), (15, .slice p2602 x2600.length c2603), (16, .int .i64 (x2600.length : Int)), (17, .int .i64 s2642.2.2)] a) hw2650 (fun a ha => ⟨M2608.pick [] (by kernel_rfl), ha.sub (by kernel_rfl)⟩) ?_
    clear hm
    intro s2642 x2643 hm hout2644 a2645 w2646 ⟨M2647, hS2648⟩
    refine G_use hS2648 ?_
    refine G_seq ?_
    refine G_region ?_
    refine W_run 1 [(7, .int .i64 s2642.1), (8, .int .i64 s2642.2.1), (15, .slice p2602 x2600.length c2603), (16, .int .i64 (x2600.length : Int)), (17, .int .i64 s2642.2.2), (18, .bool (decide (s2642.2.2 < (x2600.length : Int))))] w2646 (by kernel_rfl) ?_
    refine W_nil ?_
    refine N_then ?_
    refine G_seq ?_
    rcases gx_bif hm with ⟨hc2653, hm⟩ | ⟨hc2653, hm⟩
    · refine G_cond_t (b := (decide (s2642.2.2 < (x2600.length : Int)))) hc2653 (by kernel_rfl) ?_
      refine G_skip ?_
      refine N_then ?_
      refine G_seq ?_
      refine G_block ?_
      refine G_seq ?_
      refine G_region ?_
      obtain ⟨y2654, hy2654, hm⟩ := gx_bind hm
      obtain ⟨zs2655, hz2656, hr2657, hi2658⟩ := id h2604
      obtain ⟨g2659, hg2660⟩ := gxIdx_fst hz2656 hy2654
      refine W_val (elemP p2602 (s2642.2.2.toNat * 3)) w2646 (by kernel_rfl) (E_index (E := deepBalloon.E) _ _ _ x2600.length c2603 .i64 s2642.2.2 3 (y := (y2654, g2659)) rfl (by kernel_rfl) (by kernel_rfl) (by kernel_rfl) (hr2657.mem0 M2647) (len_fst hz2656) hg2660) ?_
      refine W_val (.agg #[.int .i64 y2654.Guest, .int .i64 y2654.Goal, .slice ((g2659 0).1) y2654.Gave.length ((g2659 0).2)]) w2646 (by kernel_rfl) (E_loadE (E := deepBalloon.E) _ _ true 3 s2642.2.2 0 (s2642.2.2.toNat * 3) (y2654, g2659) (.agg #[.int .i64 y2654.Guest, .int .i64 y2654.Goal, .slice ((g2659 0).1) y2654.Gave.length ((g2659 0).2)]) rfl (by kernel_rfl) (by kernel_rfl) (by kernel_rfl) (hr2657.mem0 M2647) hg2660 rfl) ?_
      refine W_new (fun b => .pointer (some ⟨b, 0, none⟩)) (.cells ⟨[.int .i64 0, .int .i64 0, .slice none 0 0]⟩ 50 (0, 0)) M2647 rfl (by kernel_rfl) (by kernel_rfl) ?_
      intro b2664 w2665 M2666
      refine W_store _ _ _ true 3 b2664 0 [.int .i64 0, .int .i64 0, .slice none 0 0] 50 (.agg #[.int .i64 y2654.Guest, .int .i64 y2654.Goal, .slice ((g2659 0).1) y2654.Gave.length ((g2659 0).2)]) 0 [.int .i64 y2654.Guest, .int .i64 y2654.Goal, .slice ((g2659 0).1) y2654.Gave.length ((g2659 0).2)] M2666 (by kernel_rfl) rfl (by kernel_rfl) (by kernel_rfl) (by kernel_rfl) (by kernel_rfl) (by kernel_rfl) (by kernel_rfl) (by kernel_rfl) (by kernel_rfl) ?_
      intro w2667 M2668
      refine W_nil ?_
      refine N_then ?_
      refine G_seq ?_
      refine G_region ?_
      refine W_run 2 [(7, .int .i64 s2642.1), (8, .int .i64 s2642.2.1), (10, .pointer (some ⟨b2664, 0, none⟩)), (15, .slice p2602 x2600.length c2603), (16, .int .i64 (x2600.length : Int)), (17, .int .i64 s2642.2.2), (21, .int .i64 s2642.1), (22, .pointer (some ⟨b2664, 2, none⟩))] w2667 (by kernel_rfl) ?_
      refine W_val (.slice ((g2659 0).1) y2654.Gave.length ((g2659 0).2)) w2667 (by kernel_rfl) (E_load (e := 50) (fr := (0, 0)) _ _ false 1 b2664 2 [.int .i64 y2654.Guest, .int .i64 y2654.Goal, .slice ((g2659 0).1) y2654.Gave.length ((g2659 0).2)] (.slice ((g2659 0).1) y2654.Gave.length ((g2659 0).2)) rfl (by kernel_rfl) (by kernel_rfl) (by kernel_rfl) (M2668.blk 0 (b := b2664) (o := .cells ⟨[.int .i64 y2654.Guest, .int .i64 y2654.Goal, .slice ((g2659 0).1) y2654.Gave.length ((g2659 0).2)]⟩ 50 (0, 0)) (by kernel_rfl))) ?_
      refine W_run 3 [(7, .int .i64 (w64 (s2642.1 + (y2654.Gave.length : Int)))), (8, .int .i64 s2642.2.1), (10, .pointer (some ⟨b2664, 0, none⟩)), (15, .slice p2602 x2600.length c2603), (16, .int .i64 (x2600.length : Int)), (17, .int .i64 s2642.2.2)] w2667 (by kernel_rfl) ?_
      refine W_nil ?_
      refine N_then ?_
      refine G_region ?_
      refine W_run 2 [(7, .int .i64 (w64 (s2642.1 + (y2654.Gave.length : Int)))), (8, .int .i64 s2642.2.1), (10, .pointer (some ⟨b2664, 0, none⟩)), (15, .slice p2602 x2600.length c2603), (16, .int .i64 (x2600.length : Int)), (17, .int .i64 s2642.2.2), (26, .int .i64 s2642.2.1), (27, .pointer (some ⟨b2664, 1, none⟩))] w2667 (by kernel_rfl) ?_
      refine W_val (.int .i64 y2654.Goal) w2667 (by kernel_rfl) (E_load (e := 50) (fr := (0, 0)) _ _ false 1 b2664 1 [.int .i64 y2654.Guest, .int .i64 y2654.Goal, .slice ((g2659 0).1) y2654.Gave.length ((g2659 0).2)] (.int .i64 y2654.Goal) rfl (by kernel_rfl) (by kernel_rfl) (by kernel_rfl) (M2668.blk 0 (b := b2664) (o := .cells ⟨[.int .i64 y2654.Guest, .int .i64 y2654.Goal, .slice ((g2659 0).1) y2654.Gave.length ((g2659 0).2)]⟩ 50 (0, 0)) (by kernel_rfl))) ?_
      refine W_run 1 [(7, .int .i64 (w64 (s2642.1 + (y2654.Gave.length : Int)))), (8, .int .i64 s2642.2.1), (15, .slice p2602 x2600.length c2603), (16, .int .i64 (x2600.length : Int)), (17, .int .i64 s2642.2.2), (26, .int .i64 s2642.2.1), (28, .int .i64 y2654.Goal), (29, .pointer (some ⟨b2664, 2, none⟩))] w2667 (by kernel_rfl) ?_
      refine W_val (.slice ((g2659 0).1) y2654.Gave.length ((g2659 0).2)) w2667 (by kernel_rfl) (E_load (e := 50) (fr := (0, 0)) _ _ false 1 b2664 2 [.int .i64 y2654.Guest, .int .i64 y2654.Goal, .slice ((g2659 0).1) y2654.Gave.length ((g2659 0).2)] (.slice ((g2659 0).1) y2654.Gave.length ((g2659 0).2)) rfl (by kernel_rfl) (by kernel_rfl) (by kernel_rfl) (M2668.blk 0 (b := b2664) (o := .cells ⟨[.int .i64 y2654.Guest, .int .i64 y2654.Goal, .slice ((g2659 0).1) y2654.Gave.length ((g2659 0).2)]⟩ 50 (0, 0)) (by kernel_rfl))) ?_
      refine W_run 5 [(7, .int .i64 (w64 (s2642.1 + (y2654.Gave.length : Int)))), (8, .int .i64 (w64 (s2642.2.1 + (gxMax (w64 (y2654.Goal - (y2654.Gave.length : Int))) 0)))), (15, .slice p2602 x2600.length c2603), (16, .int .i64 (x2600.length : Int)), (17, .int .i64 s2642.2.2)] w2667 (by kernel_rfl) ?_
      refine W_nil ?_
      refine N_block ?_
      refine N_then ?_
      refine G_region ?_
      refine W_run 2 [(7, .int .i64 (w64 (s2642.1 + (y2654.Gave.length : Int)))), (8, .int .i64 (w64 (s2642.2.1 + (gxMax (w64 (y2654.Goal - (y2654.Gave.length : Int))) 0)))), (15, .slice p2602 x2600.length c2603), (16, .int .i64 (x2600.length : Int)), (17, .int .i64 (w64 (s2642.2.2 + 1)))] w2667 (by kernel_rfl) ?_
      refine W_nil ?_
      obtain rfl := Option.some.inj hm
      exact N_loop fun a ha => ⟨_, rfl, M2668.pick [] (by kernel_rfl), ha.sub (by kernel_rfl)⟩
    refine G_cond_f (b := (decide (s2642.2.2 < (x2600.length : Int)))) hc2653 (by kernel_rfl) ?_
    refine G_exit ?_
    refine N_then_exit ?_
    refine N_then_exit ?_
    refine N_block_eq ?_
    obtain rfl := Option.some.inj hm
    obtain rfl := hout2644 _ rfl
    exact N_meet fun a ha => ⟨M2647.pick [] (by kernel_rfl), ha.sub (by kernel_rfl)⟩
  intro a2669 w2670 ⟨M2671, hS2672⟩
  refine N_use hS2672 ?_
  have hm := hmo2651
  refine N_then ?_
  refine G_seq ?_
  refine G_region ?_
  refine W_run 5 [(4, .int .i64 out2649.1), (5, .int .i64 out2649.2), (6, .bool true)] w2670 (by kernel_rfl) ?_
  refine W_nil ?_
  refine N_then ?_
  refine G_ret ?_
  obtain rfl := Option.some.inj hm
  refine N_ret [.int .i64 out2649.1, .int .i64 out2649.2, .bool true] (RVs_cons (RV_tmp (by kernel_rfl)) (RVs_cons (RV_tmp (by kernel_rfl)) (RVs_cons (RV_tmp (by kernel_rfl)) RVs_nil))) ?_
  exact ⟨rfl, M2671.pick [] (by kernel_rfl)⟩
end Go.Proofs.Ytlfligjpmodefaa
