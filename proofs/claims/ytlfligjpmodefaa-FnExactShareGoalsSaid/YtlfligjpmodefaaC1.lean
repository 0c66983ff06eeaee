/- The walks, printed by program: whenever the model gives r, the call returns r. Part 1. -/
import Derived.Test.YtlfligjpmodefaaM
import Derived.Test.YtlfligjpmodefaaProg
set_option linter.unusedVariables false
set_option maxRecDepth 100000
set_option maxHeartbeats 4000000
namespace Go.Proofs.Ytlfligjpmodefaa
open Go.Gx
theorem c_l_szIntS (w : World) (x38 : List Int) (p40 : Option Addr) (c41 : Nat) (h42 : rdS encI w x38 p40 c41) (x43 : Int) {r : Int} (hm : M.l_szIntS x38 x43 = some r) :
    Calls Try.prog 78 #[.slice p40 x38.length c41, .int .i64 x43] w fun e w' => e = .returned (.int .i64 r) ∧ Mem [] w w' [] := by
  unfold M.l_szIntS at hm
  refine C_enter Try.func78 rfl (by kernel_rfl) ?_
  have M0 := Mem.refl [] w
  refine G_seq ?_
  refine G_region ?_
  refine W_run 1 [(0, .slice p40 x38.length c41), (1, .int .i64 x43)] w (by kernel_rfl) ?_
  refine W_nil ?_
  refine N_then ?_
  refine G_seq ?_
  refine G_region ?_
  refine W_run 5 [(1, .int .i64 (w64 (x43 - (x38.length : Int))))] w (by kernel_rfl) ?_
  refine W_nil ?_
  refine N_then ?_
  refine G_seq ?_
  refine G_seq ?_
  refine G_region ?_
  refine W_run 2 [(1, .int .i64 (w64 (x43 - (x38.length : Int)))), (10, .bool (decide ((w64 (x43 - (x38.length : Int))) < 0)))] w (by kernel_rfl) ?_
  refine W_nil ?_
  refine N_then ?_
  rcases gx_bif hm with ⟨hc44, hm⟩ | ⟨hc44, hm⟩
  · refine G_cond_t (b := (decide ((w64 (x43 - (x38.length : Int))) < 0))) hc44 (by kernel_rfl) ?_
    refine G_seq ?_
    refine G_region ?_
    refine W_run 1 [(4, .int .i64 (-1))] w (by kernel_rfl) ?_
    refine W_nil ?_
    refine N_then ?_
    refine G_ret ?_
    refine N_then_ret ?_
    obtain rfl := Option.some.inj hm
    refine N_ret [.int .i64 (-1)] (RVs_cons (RV_tmp (by kernel_rfl)) RVs_nil) ?_
    exact ⟨rfl, M0.pick [] (by kernel_rfl)⟩
  · refine G_cond_f (b := (decide ((w64 (x43 - (x38.length : Int))) < 0))) hc44 (by kernel_rfl) ?_
    refine G_skip ?_
    refine N_then ?_
    refine G_seq ?_
    refine G_region ?_
    refine W_run 2 [(4, .int .i64 (w64 (x43 - (x38.length : Int))))] w (by kernel_rfl) ?_
    refine W_nil ?_
    refine N_then ?_
    refine G_ret ?_
    obtain rfl := Option.some.inj hm
    refine N_ret [.int .i64 (w64 (x43 - (x38.length : Int)))] (RVs_cons (RV_tmp (by kernel_rfl)) RVs_nil) ?_
    exact ⟨rfl, M0.pick [] (by kernel_rfl)⟩
theorem c_l_szBalloon (w : World) (x28 : Balloon) (p30 : Option Addr) (c31 : Nat) (h32 : rdS encI w x28.Gave p30 c31) (x33 : Int) {r : Int} (hm : M.l_szBalloon x28 x33 = some r) :
    Calls Try.prog 46 #[.agg #[.int .i64 x28.Guest, .int .i64 x28.Goal, .slice p30 x28.Gave.length c31], .int .i64 x33] w fun e w' => e = .returned (.int .i64 r) ∧ Mem [] w w' [] := by
  unfold M.l_szBalloon at hm
  refine C_enter Try.func46 rfl (by kernel_rfl) ?_
  have M0 := Mem.refl [] w
  refine G_seq ?_
  refine G_region ?_
  refine W_new (fun b => .pointer (some ⟨b, 0, none⟩)) (.cells ⟨[.int .i64 x28.Guest, .int .i64 x28.Goal, .slice p30 x28.Gave.length c31]⟩ 56 (0, 0)) M0 rfl (by kernel_rfl) (by kernel_rfl) ?_
  intro b35 w36 M37
  refine W_run 1 [(1, .int .i64 x33), (2, .pointer (some ⟨b35, 0, none⟩))] w36 (by kernel_rfl) ?_
  refine W_nil ?_
  refine N_then ?_
  refine G_seq ?_
  refine G_region ?_
  refine W_run 1 [(1, .int .i64 x33), (5, .pointer (some ⟨b35, 2, none⟩))] w36 (by kernel_rfl) ?_
  refine W_val (.slice p30 x28.Gave.length c31) w36 (by kernel_rfl) (E_load (e := 56) (fr := (0, 0)) _ _ false 1 b35 2 [.int .i64 x28.Guest, .int .i64 x28.Goal, .slice p30 x28.Gave.length c31] (.slice p30 x28.Gave.length c31) rfl (by kernel_rfl) (by kernel_rfl) (by kernel_rfl) (M37.blk 0 (b := b35) (o := .cells ⟨[.int .i64 x28.Guest, .int .i64 x28.Goal, .slice p30 x28.Gave.length c31]⟩ 56 (0, 0)) (by kernel_rfl))) ?_
  refine W_run 1 [(1, .int .i64 x33), (6, .slice p30 x28.Gave.length c31), (7, .int .i64 x33)] w36 (by kernel_rfl) ?_
  obtain ⟨r45, hr45, hm⟩ := gx_bind hm
  refine W_call 78 #[.slice p30 x28.Gave.length c31, .int .i64 x33] (by kernel_rfl) (by kernel_rfl) ?_
  refine (c_l_szIntS w36 x28.Gave p30 c31 (h32.mem0 M37) x33 hr45).mono ?_
  rintro e_ w46 ⟨rfl, K47⟩
  have M48 := M37.call0 K47
  refine ⟨_, rfl, ?_⟩
  refine W_run 1 [(1, .int .i64 r45)] w46 (by kernel_rfl) ?_
  refine W_nil ?_
  refine N_then ?_
  refine G_seq ?_
  refine G_seq ?_
  refine G_region ?_
  refine W_run 2 [(1, .int .i64 r45), (10, .bool (decide (r45 < 0)))] w46 (by kernel_rfl) ?_
  refine W_nil ?_
  refine N_then ?_
  rcases gx_bif hm with ⟨hc49, hm⟩ | ⟨hc49, hm⟩
  · refine G_cond_t (b := (decide (r45 < 0))) hc49 (by kernel_rfl) ?_
    refine G_seq ?_
    refine G_region ?_
    refine W_run 1 [(4, .int .i64 (-1))] w46 (by kernel_rfl) ?_
    refine W_nil ?_
    refine N_then ?_
    refine G_ret ?_
    refine N_then_ret ?_
    obtain rfl := Option.some.inj hm
    refine N_ret [.int .i64 (-1)] (RVs_cons (RV_tmp (by kernel_rfl)) RVs_nil) ?_
    exact ⟨rfl, M48.pick [] (by kernel_rfl)⟩
  · refine G_cond_f (b := (decide (r45 < 0))) hc49 (by kernel_rfl) ?_
    refine G_skip ?_
    refine N_then ?_
    refine G_seq ?_
    refine G_region ?_
    refine W_run 2 [(4, .int .i64 r45)] w46 (by kernel_rfl) ?_
    refine W_nil ?_
    refine N_then ?_
    refine G_ret ?_
    obtain rfl := Option.some.inj hm
    refine N_ret [.int .i64 r45] (RVs_cons (RV_tmp (by kernel_rfl)) RVs_nil) ?_
    exact ⟨rfl, M48.pick [] (by kernel_rfl)⟩
theorem c_l_szBalloonS (w : World) (x12 : List Balloon) (p14 : Option Addr) (c15 : Nat) (h16 : rdD deepBalloon w x12 p14 c15) (x17 : Int) {r : Int} (hm : M.l_szBalloonS x12 x17 = some r) :
    Calls Try.prog 13 #[.slice p14 x12.length c15, .int .i64 x17] w fun e w' => e = .returned (.int .i64 r) ∧ Mem [] w w' [] := by
  unfold M.l_szBalloonS at hm
  refine C_enter Try.func13 rfl (by kernel_rfl) ?_
  have M0 := Mem.refl [] w
  refine G_seq ?_
  refine G_region ?_
  refine W_run 1 [(0, .slice p14 x12.length c15), (1, .int .i64 x17)] w (by kernel_rfl) ?_
  refine W_nil ?_
  refine N_then ?_
  refine G_seq ?_
  refine G_region ?_
  refine W_run 5 [(0, .slice p14 x12.length c15), (1, .int .i64 (w64 (x17 - (x12.length : Int))))] w (by kernel_rfl) ?_
  refine W_nil ?_
  refine N_then ?_
  refine G_seq ?_
  refine G_seq ?_
  refine G_region ?_
  refine W_run 2 [(0, .slice p14 x12.length c15), (1, .int .i64 (w64 (x17 - (x12.length : Int)))), (11, .bool (decide ((w64 (x17 - (x12.length : Int))) < 0)))] w (by kernel_rfl) ?_
  refine W_nil ?_
  refine N_then ?_
  rcases gx_bif hm with ⟨hc18, hm⟩ | ⟨hc18, hm⟩
  · refine G_cond_t (b := (decide ((w64 (x17 - (x12.length : Int))) < 0))) hc18 (by kernel_rfl) ?_
    refine G_seq ?_
    refine G_region ?_
    refine W_run 1 [(4, .int .i64 (-1))] w (by kernel_rfl) ?_
    refine W_nil ?_
    refine N_then ?_
    refine G_ret ?_
    refine N_then_ret ?_
    obtain rfl := Option.some.inj hm
    refine N_ret [.int .i64 (-1)] (RVs_cons (RV_tmp (by kernel_rfl)) RVs_nil) ?_
    exact ⟨rfl, M0.pick [] (by kernel_rfl)⟩
  · refine G_cond_f (b := (decide ((w64 (x17 - (x12.length : Int))) < 0))) hc18 (by kernel_rfl) ?_
    refine G_skip ?_
    refine N_then ?_
    refine G_seq ?_
    refine G_seq ?_
    refine G_region ?_
    refine W_run 1 [(0, .slice p14 x12.length c15), (1, .int .i64 (w64 (x17 - (x12.length : Int)))), (5, .int .i64 0)] w (by kernel_rfl) ?_
    refine W_nil ?_
    refine N_then ?_
    obtain ⟨out76, hw77, hmo78⟩ := gx_bind hm
    refine G_meet (fun a w' => ∃ (o79 : Int), out76 = .inl o79 ∧ Mem [] w w' [] ∧ Sat Try.f13.ntmps [(1, .int .i64 o79)] a) ?_ ?_
    · refine G_block ?_
      refine G_while (σ := Int × Int) (ρ := (Int) ⊕ (Int)) (fun s69 a w' => Mem [] w w' [] ∧ Sat Try.f13.ntmps [(0, .slice p14 x12.length c15), (1, .int .i64 s69.1), (5, .int .i64 s69.2)] a) hw77 (fun a ha => ⟨M0.pick [] (by kernel_rfl), ha.sub (by kernel_rfl)⟩) ?_
      clear hm
      intro s69 x70 hm hout71 a72 w73 ⟨M74, hS75⟩
      refine G_use hS75 ?_
      refine G_seq ?_
      refine G_seq ?_
      refine G_region ?_
      refine W_run 4 [(0, .slice p14 x12.length c15), (1, .int .i64 s69.1), (5, .int .i64 s69.2), (15, .bool (decide (s69.2 < (x12.length : Int))))] w73 (by kernel_rfl) ?_
      refine W_nil ?_
      refine N_then ?_
      rcases gx_bif hm with ⟨hc80, hm⟩ | ⟨hc80, hm⟩
      · refine G_cond_t (b := (decide (s69.2 < (x12.length : Int)))) hc80 (by kernel_rfl) ?_
        refine G_skip ?_
        refine N_then ?_
        refine G_seq ?_
        refine G_block ?_
        refine G_seq ?_
        refine G_region ?_
        refine W_run 2 [(0, .slice p14 x12.length c15), (1, .int .i64 s69.1), (5, .int .i64 s69.2), (18, .slice p14 x12.length c15), (19, .int .i64 s69.2)] w73 (by kernel_rfl) ?_
        obtain ⟨y81, hy81, hm⟩ := gx_bind hm
        obtain ⟨zs82, hz83, hr84, hi85⟩ := id h16
        obtain ⟨g86, hg87⟩ := gxIdx_fst hz83 hy81
        refine W_val (elemP p14 (s69.2.toNat * 3)) w73 (by kernel_rfl) (E_index (E := deepBalloon.E) _ _ _ x12.length c15 .i64 s69.2 3 (y := (y81, g86)) rfl (by kernel_rfl) (by kernel_rfl) (by kernel_rfl) (hr84.mem0 M74) (len_fst hz83) hg87) ?_
        refine W_val (.agg #[.int .i64 y81.Guest, .int .i64 y81.Goal, .slice ((g86 0).1) y81.Gave.length ((g86 0).2)]) w73 (by kernel_rfl) (E_loadE (E := deepBalloon.E) _ _ true 3 s69.2 0 (s69.2.toNat * 3) (y81, g86) (.agg #[.int .i64 y81.Guest, .int .i64 y81.Goal, .slice ((g86 0).1) y81.Gave.length ((g86 0).2)]) rfl (by kernel_rfl) (by kernel_rfl) (by kernel_rfl) (hr84.mem0 M74) hg87 rfl) ?_
        refine W_run 1 [(0, .slice p14 x12.length c15), (1, .int .i64 s69.1), (5, .int .i64 s69.2), (21, .agg #[.int .i64 y81.Guest, .int .i64 y81.Goal, .slice ((g86 0).1) y81.Gave.length ((g86 0).2)]), (22, .int .i64 s69.1)] w73 (by kernel_rfl) ?_
        obtain ⟨r89, hr89, hm⟩ := gx_bind hm
        refine W_call 46 #[.agg #[.int .i64 y81.Guest, .int .i64 y81.Goal, .slice ((g86 0).1) y81.Gave.length ((g86 0).2)], .int .i64 s69.1] (by kernel_rfl) (by kernel_rfl) ?_
        refine (c_l_szBalloon w73 y81 ((g86 0).1) ((g86 0).2) ((hi85.mem0 M74).at_ hg87 0 ⟨Int, encI, y81.Gave, (g86 0).1, (g86 0).2⟩ (by kernel_rfl)) s69.1 hr89).mono ?_
        rintro e_ w90 ⟨rfl, K91⟩
        have M92 := M74.call0 K91
        refine ⟨_, rfl, ?_⟩
        refine W_run 1 [(0, .slice p14 x12.length c15), (1, .int .i64 r89), (5, .int .i64 s69.2)] w90 (by kernel_rfl) ?_
        refine W_nil ?_
        refine N_then ?_
        refine G_seq ?_
        refine G_region ?_
        refine W_run 2 [(0, .slice p14 x12.length c15), (1, .int .i64 r89), (5, .int .i64 s69.2), (25, .bool (decide (r89 < 0)))] w90 (by kernel_rfl) ?_
        refine W_nil ?_
        refine N_then ?_
        rcases gx_bif hm with ⟨hc93, hm⟩ | ⟨hc93, hm⟩
        · refine G_cond_t (b := (decide (r89 < 0))) hc93 (by kernel_rfl) ?_
          refine G_seq ?_
          refine G_region ?_
          refine W_run 1 [(4, .int .i64 (-1))] w90 (by kernel_rfl) ?_
          refine W_nil ?_
          refine N_then ?_
          refine G_ret ?_
          refine N_block_ret ?_
          refine N_then_ret ?_
          refine N_then_ret ?_
          obtain rfl := Option.some.inj hm
          obtain rfl := hout71 _ rfl
          have hm := hmo78; simp only [Sum.elim_inr] at hm
          refine N_block_ret ?_
          refine N_meet_ret ?_
          refine N_then_ret ?_
          obtain rfl := Option.some.inj hm
          refine N_ret [.int .i64 (-1)] (RVs_cons (RV_tmp (by kernel_rfl)) RVs_nil) ?_
          exact ⟨rfl, M92.pick [] (by kernel_rfl)⟩
        · refine G_cond_f (b := (decide (r89 < 0))) hc93 (by kernel_rfl) ?_
          refine G_skip ?_
          refine N_block ?_
          refine N_then ?_
          refine G_region ?_
          refine W_run 3 [(0, .slice p14 x12.length c15), (1, .int .i64 r89), (5, .int .i64 (w64 (s69.2 + 1)))] w90 (by kernel_rfl) ?_
          refine W_nil ?_
          obtain rfl := Option.some.inj hm
          exact N_loop fun a ha => ⟨_, rfl, M92.pick [] (by kernel_rfl), ha.sub (by kernel_rfl)⟩
      · refine G_cond_f (b := (decide (s69.2 < (x12.length : Int)))) hc80 (by kernel_rfl) ?_
        refine G_exit ?_
        refine N_then_exit ?_
        refine N_then_exit ?_
        refine N_block_eq ?_
        obtain rfl := Option.some.inj hm
        obtain rfl := hout71 _ rfl
        exact N_meet fun a ha => ⟨_, rfl, M74.pick [] (by kernel_rfl), ha.sub (by kernel_rfl)⟩
    · intro a94 w95 ⟨o79, hout_, M96, hS97⟩
      refine N_use hS97 ?_
      subst hout_
      have hm := hmo78; simp only [Sum.elim_inl] at hm
      refine N_then ?_
      refine G_seq ?_
      refine G_region ?_
      refine W_run 2 [(4, .int .i64 o79)] w95 (by kernel_rfl) ?_
      refine W_nil ?_
      refine N_then ?_
      refine G_ret ?_
      obtain rfl := Option.some.inj hm
      refine N_ret [.int .i64 o79] (RVs_cons (RV_tmp (by kernel_rfl)) RVs_nil) ?_
      exact ⟨rfl, M96.pick [] (by kernel_rfl)⟩
theorem c_l_toIntS (w : World) (x103 : List Int) (p105 : Option Addr) (c106 : Nat) (h107 : rdS encI w x103 p105 c106) {r : (List Int)} (hm : M.l_toIntS x103 = some r) :
    Calls Try.prog 15 #[.slice p105 x103.length c106] w fun e w' => ∃ (p109 : Option Addr) (c110 : Nat) (sg111 : Seg), e = .returned (.slice p109 r.length c110) ∧ ownS encI r p109 c110 sg111 ∧ Mem [] w w' [sg111] := by
  unfold M.l_toIntS at hm
  refine C_enter Try.func15 rfl (by kernel_rfl) ?_
  have M0 := Mem.refl [] w
  refine G_seq ?_
  refine G_region ?_
  refine W_run 1 [(0, .slice p105 x103.length c106)] w (by kernel_rfl) ?_
  refine W_nil ?_
  refine N_then ?_
  refine G_seq ?_
  refine G_region ?_
  refine W_run 2 [(0, .slice p105 x103.length c106), (6, .int .i64 (x103.length : Int))] w (by kernel_rfl) ?_
  obtain ⟨mk113, hmk113, hm⟩ := gx_bind hm
  refine W_make (E := encI) _ _ _ (x103.length : Int) 8 [.int .i64 0] (0 : Int) M0 (by kernel_rfl) rfl (by kernel_rfl) (by kernel_rfl) (by kernel_rfl) (by kernel_rfl) (by kernel_rfl) hmk113 ?_
  intro p114 c115 sg116 w117 ho118 M119
  refine W_run 1 [(0, .slice p105 x103.length c106), (3, .slice p114 mk113.length c115)] w117 (by kernel_rfl) ?_
  refine W_nil ?_
  refine N_then ?_
  refine G_seq ?_
  refine G_seq ?_
  refine G_region ?_
  refine W_run 1 [(0, .slice p105 x103.length c106), (3, .slice p114 mk113.length c115), (4, .int .i64 0)] w117 (by kernel_rfl) ?_
  refine W_nil ?_
  refine N_then ?_
  obtain ⟨out144, hw145, hmo146⟩ := gx_bind hm
  refine G_meet (fun a w' => ∃ (sg150 : Seg), ownS encI out144 p114 c115 sg150 ∧ Mem [] w w' [sg150] ∧ Sat Try.f15.ntmps [(3, .slice p114 out144.length c115)] a) ?_ ?_
  · refine G_block ?_
    refine G_while (σ := Int × List Int) (ρ := List Int) (fun s137 a w' => ∃ (sg147 : Seg), ownS encI s137.2 p114 c115 sg147 ∧ Mem [] w w' [sg147] ∧ Sat Try.f15.ntmps [(0, .slice p105 x103.length c106), (3, .slice p114 s137.2.length c115), (4, .int .i64 s137.1)] a) hw145 (fun a ha => ⟨sg116, ho118, M119.pick [0] (by kernel_rfl), ha.sub (by kernel_rfl)⟩) ?_
    clear hm
    intro s137 x138 hm hout139 a140 w141 ⟨sg147, ho148, M142, hS143⟩
    refine G_use hS143 ?_
    refine G_seq ?_
    refine G_seq ?_
    refine G_region ?_
    refine W_run 4 [(0, .slice p105 x103.length c106), (3, .slice p114 s137.2.length c115), (4, .int .i64 s137.1), (11, .bool (decide (s137.1 < (x103.length : Int))))] w141 (by kernel_rfl) ?_
    refine W_nil ?_
    refine N_then ?_
    rcases gx_bif hm with ⟨hc152, hm⟩ | ⟨hc152, hm⟩
    · refine G_cond_t (b := (decide (s137.1 < (x103.length : Int)))) hc152 (by kernel_rfl) ?_
      refine G_skip ?_
      refine N_then ?_
      refine G_seq ?_
      refine G_block ?_
      refine G_region ?_
      refine W_run 4 [(0, .slice p105 x103.length c106), (3, .slice p114 s137.2.length c115), (4, .int .i64 s137.1), (14, .slice p114 s137.2.length c115), (15, .int .i64 s137.1), (16, .slice p105 x103.length c106), (17, .int .i64 s137.1)] w141 (by kernel_rfl) ?_
      obtain ⟨y153, hy153, hm⟩ := gx_bind hm
      refine W_val (elemP p105 (s137.1.toNat * 1)) w141 (by kernel_rfl) (E_index (E := encI) _ _ _ x103.length c106 .i64 s137.1 1 (y := y153) rfl (by kernel_rfl) (by kernel_rfl) (by kernel_rfl) (h107.mem0 M142) rfl hy153) ?_
      refine W_val (.int .i64 y153) w141 (by kernel_rfl) (E_loadE (E := encI) _ _ false 1 s137.1 0 (s137.1.toNat * 1) y153 (.int .i64 y153) rfl (by kernel_rfl) (by kernel_rfl) (by kernel_rfl) (h107.mem0 M142) hy153 rfl) ?_
      obtain ⟨y154, hy154, hm⟩ := gx_bind hm
      refine W_val (elemP p114 (s137.1.toNat * 1)) w141 (by kernel_rfl) (E_index (E := encI) _ _ _ s137.2.length c115 .i64 s137.1 1 (y := y154) rfl (by kernel_rfl) (by kernel_rfl) (by kernel_rfl) (ho148.rd M142 0 (by kernel_rfl)) rfl hy154) ?_
      refine W_storeE (E := encI) _ _ _ false 1 s137.1.toNat 0 (s137.1.toNat * 1) y154 y153 (.int .i64 y153) 0 M142 ho148 (by kernel_rfl) (by kernel_rfl) rfl (by kernel_rfl) (by kernel_rfl) (by kernel_rfl) (by kernel_rfl) (by kernel_rfl) (by kernel_rfl) (by kernel_rfl) (gxIdx_spec hy154).2 rfl ?_
      intro w155 sg157 ho158 M156
      refine W_conv 3 (.slice p114 s137.2.length c115) (.slice p114 (s137.2.set s137.1.toNat y153).length c115) (by kernel_rfl) (by rw [@List.length_set _ s137.2 s137.1.toNat y153]) ?_
      refine W_conv 14 (.slice p114 s137.2.length c115) (.slice p114 (s137.2.set s137.1.toNat y153).length c115) (by kernel_rfl) (by rw [@List.length_set _ s137.2 s137.1.toNat y153]) ?_
      refine W_nil ?_
      refine N_block ?_
      refine N_then ?_
      refine G_region ?_
      refine W_run 3 [(0, .slice p105 x103.length c106), (3, .slice p114 (s137.2.set s137.1.toNat y153).length c115), (4, .int .i64 (w64 (s137.1 + 1)))] w155 (by kernel_rfl) ?_
      refine W_nil ?_
      obtain rfl := Option.some.inj hm
      exact N_loop fun a ha => ⟨_, rfl, sg157, ho158, M156.pick [0] (by kernel_rfl), ha.sub (by kernel_rfl)⟩
    · refine G_cond_f (b := (decide (s137.1 < (x103.length : Int)))) hc152 (by kernel_rfl) ?_
      refine G_exit ?_
      refine N_then_exit ?_
      refine N_then_exit ?_
      refine N_block_eq ?_
      obtain rfl := Option.some.inj hm
      obtain rfl := hout139 _ rfl
      exact N_meet fun a ha => ⟨sg147, ho148, M142.pick [0] (by kernel_rfl), ha.sub (by kernel_rfl)⟩
  · intro a159 w160 ⟨sg150, ho151, M161, hS162⟩
    refine N_use hS162 ?_
    have hm := hmo146
    refine N_then ?_
    refine G_seq ?_
    refine G_region ?_
    refine W_run 2 [(2, .slice p114 out144.length c115)] w160 (by kernel_rfl) ?_
    refine W_nil ?_
    refine N_then ?_
    refine G_ret ?_
    obtain rfl := Option.some.inj hm
    refine N_ret [.slice p114 out144.length c115] (RVs_cons (RV_tmp (by kernel_rfl)) RVs_nil) ?_
    exact ⟨p114, c115, sg150, rfl, ho151, M161.pick [0] (by kernel_rfl)⟩
theorem c_l_toBalloon (w : World) (x203 : Balloon) (p205 : Option Addr) (c206 : Nat) (h207 : rdS encI w x203.Gave p205 c206) {r : Balloon} (hm : M.l_toBalloon x203 = some r) :
    Calls Try.prog 48 #[.agg #[.int .i64 x203.Guest, .int .i64 x203.Goal, .slice p205 x203.Gave.length c206]] w fun e w' => ∃ (p209 : Option Addr) (c210 : Nat) (sg211 : Seg), e = .returned (.agg #[.int .i64 r.Guest, .int .i64 r.Goal, .slice p209 r.Gave.length c210]) ∧ ownS encI r.Gave p209 c210 sg211 ∧ Mem [] w w' [sg211] := by
  unfold M.l_toBalloon at hm
  refine C_enter Try.func48 rfl (by kernel_rfl) ?_
  have M0 := Mem.refl [] w
  refine G_seq ?_
  refine G_region ?_
  refine W_new (fun b => .pointer (some ⟨b, 0, none⟩)) (.cells ⟨[.int .i64 x203.Guest, .int .i64 x203.Goal, .slice p205 x203.Gave.length c206]⟩ 56 (0, 0)) M0 rfl (by kernel_rfl) (by kernel_rfl) ?_
  intro b213 w214 M215
  refine W_new (fun b => .pointer (some ⟨b, 0, none⟩)) (.cells ⟨[.int .i64 0, .int .i64 0, .slice none 0 0]⟩ 50 (0, 0)) M215 rfl (by kernel_rfl) (by kernel_rfl) ?_
  intro b218 w219 M220
  refine W_nil ?_
  refine N_then ?_
  refine G_seq ?_
  refine G_region ?_
  refine W_new (fun b => .pointer (some ⟨b, 0, none⟩)) (.cells ⟨[.int .i64 0, .int .i64 0, .slice none 0 0]⟩ 50 (0, 0)) M220 rfl (by kernel_rfl) (by kernel_rfl) ?_
  intro b223 w224 M225
  refine W_nil ?_
  refine N_then ?_
  refine G_seq ?_
  refine G_region ?_
  refine W_run 1 [(1, .pointer (some ⟨b213, 0, none⟩)), (2, .pointer (some ⟨b218, 0, none⟩)), (3, .pointer (some ⟨b223, 0, none⟩)), (4, .pointer (some ⟨b213, 0, none⟩))] w224 (by kernel_rfl) ?_
  refine W_val (.int .i64 x203.Guest) w224 (by kernel_rfl) (E_load (e := 56) (fr := (0, 0)) _ _ false 1 b213 0 [.int .i64 x203.Guest, .int .i64 x203.Goal, .slice p205 x203.Gave.length c206] (.int .i64 x203.Guest) rfl (by kernel_rfl) (by kernel_rfl) (by kernel_rfl) (M225.blk 0 (b := b213) (o := .cells ⟨[.int .i64 x203.Guest, .int .i64 x203.Goal, .slice p205 x203.Gave.length c206]⟩ 56 (0, 0)) (by kernel_rfl))) ?_
  refine W_run 1 [(1, .pointer (some ⟨b213, 0, none⟩)), (2, .pointer (some ⟨b218, 0, none⟩)), (3, .pointer (some ⟨b223, 0, none⟩)), (5, .int .i64 x203.Guest), (6, .pointer (some ⟨b223, 0, none⟩))] w224 (by kernel_rfl) ?_
  refine W_store _ _ _ false 1 b223 0 [.int .i64 0, .int .i64 0, .slice none 0 0] 50 (.int .i64 x203.Guest) 2 [.int .i64 x203.Guest, .int .i64 0, .slice none 0 0] M225 (by kernel_rfl) rfl (by kernel_rfl) (by kernel_rfl) (by kernel_rfl) (by kernel_rfl) (by kernel_rfl) (by kernel_rfl) (by kernel_rfl) (by kernel_rfl) ?_
  intro w226 M227
  refine W_nil ?_
  refine N_then ?_
  refine G_seq ?_
  refine G_region ?_
  refine W_run 1 [(1, .pointer (some ⟨b213, 0, none⟩)), (2, .pointer (some ⟨b218, 0, none⟩)), (3, .pointer (some ⟨b223, 0, none⟩)), (7, .pointer (some ⟨b213, 1, none⟩))] w226 (by kernel_rfl) ?_
  refine W_val (.int .i64 x203.Goal) w226 (by kernel_rfl) (E_load (e := 56) (fr := (0, 0)) _ _ false 1 b213 1 [.int .i64 x203.Guest, .int .i64 x203.Goal, .slice p205 x203.Gave.length c206] (.int .i64 x203.Goal) rfl (by kernel_rfl) (by kernel_rfl) (by kernel_rfl) (M227.blk 0 (b := b213) (o := .cells ⟨[.int .i64 x203.Guest, .int .i64 x203.Goal, .slice p205 x203.Gave.length c206]⟩ 56 (0, 0)) (by kernel_rfl))) ?_
  refine W_run 1 [(1, .pointer (some ⟨b213, 0, none⟩)), (2, .pointer (some ⟨b218, 0, none⟩)), (3, .pointer (some ⟨b223, 0, none⟩)), (8, .int .i64 x203.Goal), (9, .pointer (some ⟨b223, 1, none⟩))] w226 (by kernel_rfl) ?_
  refine W_store _ _ _ false 1 b223 1 [.int .i64 x203.Guest, .int .i64 0, .slice none 0 0] 50 (.int .i64 x203.Goal) 2 [.int .i64 x203.Guest, .int .i64 x203.Goal, .slice none 0 0] M227 (by kernel_rfl) rfl (by kernel_rfl) (by kernel_rfl) (by kernel_rfl) (by kernel_rfl) (by kernel_rfl) (by kernel_rfl) (by kernel_rfl) (by kernel_rfl) ?_
  intro w228 M229
  refine W_nil ?_
  refine N_then ?_
  refine G_seq ?_
  refine G_region ?_
  refine W_run 1 [(2, .pointer (some ⟨b218, 0, none⟩)), (3, .pointer (some ⟨b223, 0, none⟩)), (10, .pointer (some ⟨b213, 2, none⟩))] w228 (by kernel_rfl) ?_
  refine W_val (.slice p205 x203.Gave.length c206) w228 (by kernel_rfl) (E_load (e := 56) (fr := (0, 0)) _ _ false 1 b213 2 [.int .i64 x203.Guest, .int .i64 x203.Goal, .slice p205 x203.Gave.length c206] (.slice p205 x203.Gave.length c206) rfl (by kernel_rfl) (by kernel_rfl) (by kernel_rfl) (M229.blk 0 (b := b213) (o := .cells ⟨[.int .i64 x203.Guest, .int .i64 x203.Goal, .slice p205 x203.Gave.length c206]⟩ 56 (0, 0)) (by kernel_rfl))) ?_
  obtain ⟨r230, hr230, hm⟩ := gx_bind hm
  refine W_call 15 #[.slice p205 x203.Gave.length c206] (by kernel_rfl) (by kernel_rfl) ?_
  refine (c_l_toIntS w228 x203.Gave p205 c206 (h207.mem0 M229) hr230).mono ?_
  rintro e_ w236 ⟨p232, c233, sg234, rfl, ho235, K237⟩
  have M238 := M229.call K237
  refine ⟨_, rfl, ?_⟩
  refine W_run 1 [(2, .pointer (some ⟨b218, 0, none⟩)), (3, .pointer (some ⟨b223, 0, none⟩)), (12, .slice p232 r230.length c233), (13, .pointer (some ⟨b223, 2, none⟩))] w236 (by kernel_rfl) ?_
  refine W_store _ _ _ false 1 b223 2 [.int .i64 x203.Guest, .int .i64 x203.Goal, .slice none 0 0] 50 (.slice p232 r230.length c233) 2 [.int .i64 x203.Guest, .int .i64 x203.Goal, .slice p232 r230.length c233] M238 (by kernel_rfl) rfl (by kernel_rfl) (by kernel_rfl) (by kernel_rfl) (by kernel_rfl) (by kernel_rfl) (by kernel_rfl) (by kernel_rfl) (by kernel_rfl) ?_
  intro w239 M240
  refine W_nil ?_
  refine N_then ?_
  refine G_seq ?_
  refine G_region ?_
  refine W_val (.agg #[.int .i64 x203.Guest, .int .i64 x203.Goal, .slice p232 r230.length c233]) w239 (by kernel_rfl) (E_load (e := 50) (fr := (0, 0)) _ _ true 3 b223 0 [.int .i64 x203.Guest, .int .i64 x203.Goal, .slice p232 r230.length c233] (.agg #[.int .i64 x203.Guest, .int .i64 x203.Goal, .slice p232 r230.length c233]) rfl (by kernel_rfl) (by kernel_rfl) (by kernel_rfl) (M240.blk 2 (b := b223) (o := .cells ⟨[.int .i64 x203.Guest, .int .i64 x203.Goal, .slice p232 r230.length c233]⟩ 50 (0, 0)) (by kernel_rfl))) ?_
  refine W_store _ _ _ true 3 b218 0 [.int .i64 0, .int .i64 0, .slice none 0 0] 50 (.agg #[.int .i64 x203.Guest, .int .i64 x203.Goal, .slice p232 r230.length c233]) 1 [.int .i64 x203.Guest, .int .i64 x203.Goal, .slice p232 r230.length c233] M240 (by kernel_rfl) rfl (by kernel_rfl) (by kernel_rfl) (by kernel_rfl) (by kernel_rfl) (by kernel_rfl) (by kernel_rfl) (by kernel_rfl) (by kernel_rfl) ?_
  intro w241 M242
  refine W_nil ?_
  refine N_then ?_
  refine G_ret ?_
  obtain rfl := Option.some.inj hm
  refine N_ret [.agg #[.int .i64 x203.Guest, .int .i64 x203.Goal, .slice p232 r230.length c233]] (RVs_cons (RV_cell (g := true) (k := 3) (b := b218) (off := 0) (cs := [.int .i64 x203.Guest, .int .i64 x203.Goal, .slice p232 r230.length c233]) (e := 50) (fr := (0, 0)) (v := .agg #[.int .i64 x203.Guest, .int .i64 x203.Goal, .slice p232 r230.length c233]) (M242.blk 1 (b := b218) (o := .cells ⟨[.int .i64 x203.Guest, .int .i64 x203.Goal, .slice p232 r230.length c233]⟩ 50 (0, 0)) (by kernel_rfl)) (by kernel_rfl) (by kernel_rfl) (by kernel_rfl)) RVs_nil) ?_
  exact ⟨p232, c233, sg234, rfl, ho235, M242.pick [3] (by kernel_rfl)⟩
theorem c_l_toBalloonS (w : World) (x172 : List Balloon) (p174 : Option Addr) (c175 : Nat) (h176 : rdD deepBalloon w x172 p174 c175) {r : (List Balloon)} (hm : M.l_toBalloonS x172 = some r) :
    Calls Try.prog 16 #[.slice p174 x172.length c175] w fun e w' => ∃ (p178 : Option Addr) (c179 : Nat) (sg180 : Seg) (sg181 : Seg), e = .returned (.slice p178 r.length c179) ∧ ownD deepBalloon r p178 c179 sg180 sg181 ∧ Mem [] w w' [sg180, sg181] := by
  unfold M.l_toBalloonS at hm
  refine C_enter Try.func16 rfl (by kernel_rfl) ?_
  have M0 := Mem.refl [] w
  refine G_seq ?_
  refine G_region ?_
  refine W_run 1 [(0, .slice p174 x172.length c175)] w (by kernel_rfl) ?_
  refine W_nil ?_
  refine N_then ?_
  refine G_seq ?_
  refine G_region ?_
  refine W_run 2 [(0, .slice p174 x172.length c175), (6, .int .i64 (x172.length : Int))] w (by kernel_rfl) ?_
  obtain ⟨mk184, hmk184, hm⟩ := gx_bind hm
  refine W_makeD (D := deepBalloon) _ _ _ (x172.length : Int) 40 [.int .i64 0, .int .i64 0, .slice none 0 0] ((⟨0, 0, []⟩ : Balloon) : Balloon) (plOf []) M0 (by kernel_rfl) rfl (by kernel_rfl) (by kernel_rfl) (by kernel_rfl) (by kernel_rfl) (by kernel_rfl) (by intro i hi; simp [deepBalloon] at hi; first | (subst hi; exact ⟨rfl, rfl, rfl⟩) | (rcases hi with rfl | rfl | rfl <;> exact ⟨rfl, rfl, rfl⟩) | (rcases hi with rfl | rfl <;> exact ⟨rfl, rfl, rfl⟩)) hmk184 ?_
  intro p185 c186 sg187 w188 ho189 M190
  have M192 := M190.addNil
  obtain ⟨n191, n191e⟩ : ∃ s : Seg, s = [] := ⟨_, rfl⟩
  rw [← n191e] at ho189 M192
  refine W_run 1 [(0, .slice p174 x172.length c175), (3, .slice p185 mk184.length c186)] w188 (by kernel_rfl) ?_
  refine W_nil ?_
  refine N_then ?_
  refine G_seq ?_
  refine G_seq ?_
  refine G_region ?_
  refine W_run 1 [(0, .slice p174 x172.length c175), (3, .slice p185 mk184.length c186), (4, .int .i64 0)] w188 (by kernel_rfl) ?_
  refine W_nil ?_
  refine N_then ?_
  obtain ⟨out324, hw325, hmo326⟩ := gx_bind hm
  refine G_meet (fun a w' => ∃ (sg331 : Seg), ∃ (sg332 : Seg), ownD deepBalloon out324 p185 c186 sg331 sg332 ∧ Mem [] w w' [sg331, sg332] ∧ Sat Try.f16.ntmps [(3, .slice p185 out324.length c186)] a) ?_ ?_
  · refine G_block ?_
    refine G_while (σ := Int × List Balloon) (ρ := List Balloon) (fun s317 a w' => ∃ (sg327 : Seg), ∃ (sg328 : Seg), ownD deepBalloon s317.2 p185 c186 sg327 sg328 ∧ Mem [] w w' [sg327, sg328] ∧ Sat Try.f16.ntmps [(0, .slice p174 x172.length c175), (3, .slice p185 s317.2.length c186), (4, .int .i64 s317.1)] a) hw325 (fun a ha => ⟨sg187, n191, ho189, M192.pick [0, 1] (by kernel_rfl), ha.sub (by kernel_rfl)⟩) ?_
    clear hm
    intro s317 x318 hm hout319 a320 w321 ⟨sg327, sg328, ho329, M322, hS323⟩
    refine G_use hS323 ?_
    refine G_seq ?_
    refine G_seq ?_
    refine G_region ?_
    refine W_run 4 [(0, .slice p174 x172.length c175), (3, .slice p185 s317.2.length c186), (4, .int .i64 s317.1), (11, .bool (decide (s317.1 < (x172.length : Int))))] w321 (by kernel_rfl) ?_
    refine W_nil ?_
    refine N_then ?_
    rcases gx_bif hm with ⟨hc334, hm⟩ | ⟨hc334, hm⟩
    · refine G_cond_t (b := (decide (s317.1 < (x172.length : Int)))) hc334 (by kernel_rfl) ?_
      refine G_skip ?_
      refine N_then ?_
      refine G_seq ?_
      refine G_block ?_
      refine G_region ?_
      refine W_run 4 [(0, .slice p174 x172.length c175), (3, .slice p185 s317.2.length c186), (4, .int .i64 s317.1), (14, .slice p185 s317.2.length c186), (15, .int .i64 s317.1), (16, .slice p174 x172.length c175), (17, .int .i64 s317.1)] w321 (by kernel_rfl) ?_
      obtain ⟨y335, hy335, hm⟩ := gx_bind hm
      obtain ⟨zs336, hz337, hr338, hi339⟩ := id h176
      obtain ⟨g340, hg341⟩ := gxIdx_fst hz337 hy335
      refine W_val (elemP p174 (s317.1.toNat * 3)) w321 (by kernel_rfl) (E_index (E := deepBalloon.E) _ _ _ x172.length c175 .i64 s317.1 3 (y := (y335, g340)) rfl (by kernel_rfl) (by kernel_rfl) (by kernel_rfl) (hr338.mem0 M322) (len_fst hz337) hg341) ?_
      refine W_val (.agg #[.int .i64 y335.Guest, .int .i64 y335.Goal, .slice ((g340 0).1) y335.Gave.length ((g340 0).2)]) w321 (by kernel_rfl) (E_loadE (E := deepBalloon.E) _ _ true 3 s317.1 0 (s317.1.toNat * 3) (y335, g340) (.agg #[.int .i64 y335.Guest, .int .i64 y335.Goal, .slice ((g340 0).1) y335.Gave.length ((g340 0).2)]) rfl (by kernel_rfl) (by kernel_rfl) (by kernel_rfl) (hr338.mem0 M322) hg341 rfl) ?_
      obtain ⟨r343, hr343, hm⟩ := gx_bind hm
      refine W_call 48 #[.agg #[.int .i64 y335.Guest, .int .i64 y335.Goal, .slice ((g340 0).1) y335.Gave.length ((g340 0).2)]] (by kernel_rfl) (by kernel_rfl) ?_
      refine (c_l_toBalloon w321 y335 ((g340 0).1) ((g340 0).2) ((hi339.mem0 M322).at_ hg341 0 ⟨Int, encI, y335.Gave, (g340 0).1, (g340 0).2⟩ (by kernel_rfl)) hr343).mono ?_
      rintro e_ w349 ⟨p345, c346, sg347, rfl, ho348, K350⟩
      have M351 := M322.call K350
      refine ⟨_, rfl, ?_⟩
      obtain ⟨y352, hy352, hm⟩ := gx_bind hm
      obtain ⟨zs353, hz354, hr355, hi356⟩ := id ho329
      obtain ⟨g357, hg358⟩ := gxIdx_fst hz354 hy352
      refine W_val (elemP p185 (s317.1.toNat * 3)) w349 (by kernel_rfl) (E_index (E := deepBalloon.E) _ _ _ s317.2.length c186 .i64 s317.1 3 (y := (y352, g357)) rfl (by kernel_rfl) (by kernel_rfl) (by kernel_rfl) (hr355.rd M351 0 (by kernel_rfl)) (len_fst hz354) hg358) ?_
      obtain ⟨sa360, sb361, sc362, hs363, hb364, hp365⟩ := hi356.lens (gxIdx_spec hg358).2
      have M366 := M351.cut 1 (sa := sa360) (sb := sb361) (sc := sc362) hs363 (by kernel_rfl)
      refine W_storeE (E := deepBalloon.E) _ _ _ true 3 s317.1.toNat 0 (s317.1.toNat * 3) (y352, g357) (r343, (plOf [(p345, c346)])) (.agg #[.int .i64 r343.Guest, .int .i64 r343.Goal, .slice p345 r343.Gave.length c346]) 0 M366 hr355 (by kernel_rfl) (by kernel_rfl) rfl (by kernel_rfl) (by kernel_rfl) (by kernel_rfl) (by kernel_rfl) (by kernel_rfl) (by kernel_rfl) (by kernel_rfl) (gxIdx_spec hg358).2 rfl ?_
      intro w367 sg369 ho370 M368
      have M371 : Mem [] w w367 [sg369, sa360, sg347, sc362] := M368.pick [0, 1, 2, 4] (by kernel_rfl)
      have M372 : Mem [] w w367 [sg369, (sa360 ++ ((sg347 ++ []) ++ sc362))] := M371.regroup (by simp)
      have ho373 : ownD deepBalloon (s317.2.set s317.1.toNat r343) p185 c186 sg369 (sa360 ++ ((sg347 ++ []) ++ sc362)) := ⟨_, set_fst hz354 s317.1.toNat (r343, (plOf [(p345, c346)])), ho370, (hp365 (r343, (plOf [(p345, c346)])) _ (ownI_cons (i := ⟨Int, encI, _, _, _⟩) ho348 ownI_nil))⟩
      refine W_conv 3 (.slice p185 s317.2.length c186) (.slice p185 (s317.2.set s317.1.toNat r343).length c186) (by kernel_rfl) (by rw [@List.length_set _ s317.2 s317.1.toNat r343]) ?_
      refine W_conv 14 (.slice p185 s317.2.length c186) (.slice p185 (s317.2.set s317.1.toNat r343).length c186) (by kernel_rfl) (by rw [@List.length_set _ s317.2 s317.1.toNat r343]) ?_
      refine W_nil ?_
      refine N_block ?_
      refine N_then ?_
      refine G_region ?_
      refine W_run 3 [(0, .slice p174 x172.length c175), (3, .slice p185 (s317.2.set s317.1.toNat r343).length c186), (4, .int .i64 (w64 (s317.1 + 1)))] w367 (by kernel_rfl) ?_
      refine W_nil ?_
      obtain rfl := Option.some.inj hm
      exact N_loop fun a ha => ⟨_, rfl, sg369, (sa360 ++ ((sg347 ++ []) ++ sc362)), ho373, M372.pick [0, 1] (by kernel_rfl), ha.sub (by kernel_rfl)⟩
    · refine G_cond_f (b := (decide (s317.1 < (x172.length : Int)))) hc334 (by kernel_rfl) ?_
      refine G_exit ?_
      refine N_then_exit ?_
      refine N_then_exit ?_
      refine N_block_eq ?_
      obtain rfl := Option.some.inj hm
      obtain rfl := hout319 _ rfl
      exact N_meet fun a ha => ⟨sg327, sg328, ho329, M322.pick [0, 1] (by kernel_rfl), ha.sub (by kernel_rfl)⟩
  · intro a374 w375 ⟨sg331, sg332, ho333, M376, hS377⟩
    refine N_use hS377 ?_
    have hm := hmo326
    refine N_then ?_
    refine G_seq ?_
    refine G_region ?_
    refine W_run 2 [(2, .slice p185 out324.length c186)] w375 (by kernel_rfl) ?_
    refine W_nil ?_
    refine N_then ?_
    refine G_ret ?_
    obtain rfl := Option.some.inj hm
    refine N_ret [.slice p185 out324.length c186] (RVs_cons (RV_tmp (by kernel_rfl)) RVs_nil) ?_
    exact ⟨p185, c186, sg331, sg332, rfl, ho333, M376.pick [0, 1] (by kernel_rfl)⟩
theorem c_s_l1In (w : World) (x415 : Int) (x416 : Int) (x417 : Int) {r : Bool} (hm : M.s_l1In x415 x416 x417 = some r) :
    Calls Try.prog 57 #[.int .i64 x415, .int .i64 x416, .int .i64 x417] w fun e w' => e = .returned (.bool r) ∧ Mem [] w w' [] := by
  unfold M.s_l1In at hm
  refine C_enter Try.func57 rfl (by kernel_rfl) ?_
  have M0 := Mem.refl [] w
  refine G_seq ?_
  refine G_region ?_
  refine W_run 1 [(0, .int .i64 x415), (1, .int .i64 x416), (2, .int .i64 x417)] w (by kernel_rfl) ?_
  refine W_nil ?_
  refine N_then ?_
  refine G_seq ?_
  obtain ⟨o419, ho420, hm421⟩ := gx_bind hm
  refine G_meet (fun a w' => Mem [] w w' [] ∧ Sat Try.f57.ntmps [(6, .bool o419)] a) ?_ ?_
  · have hm := ho420
    refine G_region ?_
    refine W_run 4 [(0, .int .i64 x415), (2, .int .i64 x417), (10, .bool (decide (x415 ≥ x416)))] w (by kernel_rfl) ?_
    rcases gx_bif hm with ⟨hc422, hm⟩ | ⟨hc422, hm⟩
    · refine W_known 10 true (by kernel_rfl) hc422 ?_
      refine W_run 5 [(6, .bool (decide (x415 ≤ x417)))] w (by kernel_rfl) ?_
      refine W_nil ?_
      obtain rfl := Option.some.inj hm
      exact N_meet fun a ha => ⟨M0.pick [] (by kernel_rfl), ha.sub (by kernel_rfl)⟩
    · refine W_known 10 false (by kernel_rfl) hc422 ?_
      refine W_run 5 [(6, .bool false)] w (by kernel_rfl) ?_
      refine W_nil ?_
      obtain rfl := Option.some.inj hm
      exact N_meet fun a ha => ⟨M0.pick [] (by kernel_rfl), ha.sub (by kernel_rfl)⟩
  · intro a425 w423 ⟨M424, hS426⟩
    refine N_use hS426 ?_
    have hm := hm421
    refine N_then ?_
    refine G_ret ?_
    obtain rfl := Option.some.inj hm
    refine N_ret [.bool o419] (RVs_cons (RV_tmp (by kernel_rfl)) RVs_nil) ?_
    exact ⟨rfl, M424.pick [] (by kernel_rfl)⟩
theorem c_s_l2Good (w : World) (x408 : List Int) (p410 : Option Addr) (c411 : Nat) (h412 : rdS encI w x408 p410 c411) {r : Bool} (hm : M.s_l2Good x408 = some r) :
    Calls Try.prog 79 #[.slice p410 x408.length c411] w fun e w' => e = .returned (.bool r) ∧ Mem [] w w' [] := by
  unfold M.s_l2Good at hm
  refine C_enter Try.func79 rfl (by kernel_rfl) ?_
  have M0 := Mem.refl [] w
  refine G_seq ?_
  refine G_region ?_
  refine W_run 1 [(0, .slice p410 x408.length c411)] w (by kernel_rfl) ?_
  refine W_nil ?_
  refine N_then ?_
  refine G_seq ?_
  refine G_seq ?_
  refine G_region ?_
  refine W_run 1 [(0, .slice p410 x408.length c411), (3, .int .i64 0)] w (by kernel_rfl) ?_
  refine W_nil ?_
  refine N_then ?_
  obtain ⟨out446, hw447, hmo448⟩ := gx_bind hm
  refine G_meet (fun a w' => ∃ (o449 : Unit), out446 = .inl o449 ∧ Mem [] w w' [] ∧ Sat Try.f79.ntmps [(0, .slice p410 x408.length c411)] a) ?_ ?_
  · refine G_block ?_
    refine G_while (σ := Int) (ρ := (Unit) ⊕ (Bool)) (fun s439 a w' => Mem [] w w' [] ∧ Sat Try.f79.ntmps [(0, .slice p410 x408.length c411), (3, .int .i64 s439)] a) hw447 (fun a ha => ⟨M0.pick [] (by kernel_rfl), ha.sub (by kernel_rfl)⟩) ?_
    clear hm
    intro s439 x440 hm hout441 a442 w443 ⟨M444, hS445⟩
    refine G_use hS445 ?_
    refine G_seq ?_
    refine G_seq ?_
    refine G_region ?_
    refine W_run 4 [(0, .slice p410 x408.length c411), (3, .int .i64 s439), (7, .bool (decide (s439 < (x408.length : Int))))] w443 (by kernel_rfl) ?_
    refine W_nil ?_
    refine N_then ?_
    rcases gx_bif hm with ⟨hc450, hm⟩ | ⟨hc450, hm⟩
    · refine G_cond_t (b := (decide (s439 < (x408.length : Int)))) hc450 (by kernel_rfl) ?_
      refine G_skip ?_
      refine N_then ?_
      refine G_seq ?_
      refine G_block ?_
      refine G_seq ?_
      refine G_region ?_
      refine W_run 2 [(0, .slice p410 x408.length c411), (3, .int .i64 s439), (10, .slice p410 x408.length c411), (11, .int .i64 s439)] w443 (by kernel_rfl) ?_
      obtain ⟨y451, hy451, hm⟩ := gx_bind hm
      refine W_val (elemP p410 (s439.toNat * 1)) w443 (by kernel_rfl) (E_index (E := encI) _ _ _ x408.length c411 .i64 s439 1 (y := y451) rfl (by kernel_rfl) (by kernel_rfl) (by kernel_rfl) (h412.mem0 M444) rfl hy451) ?_
      refine W_val (.int .i64 y451) w443 (by kernel_rfl) (E_loadE (E := encI) _ _ false 1 s439 0 (s439.toNat * 1) y451 (.int .i64 y451) rfl (by kernel_rfl) (by kernel_rfl) (by kernel_rfl) (h412.mem0 M444) hy451 rfl) ?_
      obtain ⟨r452, hr452, hm⟩ := gx_bind hm
      refine W_call 57 #[.int .i64 y451, .int .i64 0, .int .i64 4] (by kernel_rfl) (by kernel_rfl) ?_
      refine (c_s_l1In w443 y451 0 4 hr452).mono ?_
      rintro e_ w453 ⟨rfl, K454⟩
      have M455 := M444.call0 K454
      refine ⟨_, rfl, ?_⟩
      refine W_run 1 [(0, .slice p410 x408.length c411), (3, .int .i64 s439), (15, .bool (!r452))] w453 (by kernel_rfl) ?_
      refine W_nil ?_
      refine N_then ?_
      rcases gx_bif hm with ⟨hc456, hm⟩ | ⟨hc456, hm⟩
      · refine G_cond_t (b := (!r452)) hc456 (by kernel_rfl) ?_
        refine G_seq ?_
        refine G_region ?_
        refine W_run 1 [(2, .bool false)] w453 (by kernel_rfl) ?_
        refine W_nil ?_
        refine N_then ?_
        refine G_ret ?_
        refine N_block_ret ?_
        refine N_then_ret ?_
        refine N_then_ret ?_
        obtain rfl := Option.some.inj hm
        obtain rfl := hout441 _ rfl
        have hm := hmo448; simp only [Sum.elim_inr] at hm
        refine N_block_ret ?_
        refine N_meet_ret ?_
        refine N_then_ret ?_
        obtain rfl := Option.some.inj hm
        refine N_ret [.bool false] (RVs_cons (RV_tmp (by kernel_rfl)) RVs_nil) ?_
        exact ⟨rfl, M455.pick [] (by kernel_rfl)⟩
      · refine G_cond_f (b := (!r452)) hc456 (by kernel_rfl) ?_
        refine G_skip ?_
        refine N_block ?_
        refine N_then ?_
        refine G_region ?_
        refine W_run 3 [(0, .slice p410 x408.length c411), (3, .int .i64 (w64 (s439 + 1)))] w453 (by kernel_rfl) ?_
        refine W_nil ?_
        obtain rfl := Option.some.inj hm
        exact N_loop fun a ha => ⟨_, rfl, M455.pick [] (by kernel_rfl), ha.sub (by kernel_rfl)⟩
    · refine G_cond_f (b := (decide (s439 < (x408.length : Int)))) hc450 (by kernel_rfl) ?_
      refine G_exit ?_
      refine N_then_exit ?_
      refine N_then_exit ?_
      refine N_block_eq ?_
      obtain rfl := Option.some.inj hm
      obtain rfl := hout441 _ rfl
      exact N_meet fun a ha => ⟨_, rfl, M444.pick [] (by kernel_rfl), ha.sub (by kernel_rfl)⟩
  · intro a457 w458 ⟨o449, hout_, M459, hS460⟩
    refine N_use hS460 ?_
    subst hout_
    have hm := hmo448; simp only [Sum.elim_inl] at hm
    refine N_then ?_
    refine G_seq ?_
    refine G_region ?_
    refine W_run 2 [(17, .int .i64 (x408.length : Int))] w458 (by kernel_rfl) ?_
    obtain ⟨r461, hr461, hm⟩ := gx_bind hm
    refine W_call 57 #[.int .i64 (x408.length : Int), .int .i64 1, .int .i64 16] (by kernel_rfl) (by kernel_rfl) ?_
    refine (c_s_l1In w458 (x408.length : Int) 1 16 hr461).mono ?_
    rintro e_ w462 ⟨rfl, K463⟩
    have M464 := M459.call0 K463
    refine ⟨_, rfl, ?_⟩
    refine W_run 1 [(2, .bool r461)] w462 (by kernel_rfl) ?_
    refine W_nil ?_
    refine N_then ?_
    refine G_ret ?_
    obtain rfl := Option.some.inj hm
    refine N_ret [.bool r461] (RVs_cons (RV_tmp (by kernel_rfl)) RVs_nil) ?_
    exact ⟨rfl, M464.pick [] (by kernel_rfl)⟩
theorem c_s_l1Rising (w : World) (x515 : List Int) (p517 : Option Addr) (c518 : Nat) (h519 : rdS encI w x515 p517 c518) (x520 : Int) (x521 : Int) {r : Bool} (hm : M.s_l1Rising x515 x520 x521 = some r) :
    Calls Try.prog 80 #[.slice p517 x515.length c518, .int .i64 x520, .int .i64 x521] w fun e w' => e = .returned (.bool r) ∧ Mem [] w w' [] := by
  unfold M.s_l1Rising at hm
  refine C_enter Try.func80 rfl (by kernel_rfl) ?_
  have M0 := Mem.refl [] w
  refine G_seq ?_
  refine G_region ?_
  refine W_run 1 [(0, .slice p517 x515.length c518), (1, .int .i64 x520), (2, .int .i64 x521)] w (by kernel_rfl) ?_
  refine W_nil ?_
  refine N_then ?_
  refine G_seq ?_
  refine G_seq ?_
  refine G_region ?_
  refine W_run 1 [(0, .slice p517 x515.length c518), (1, .int .i64 x520), (2, .int .i64 x521), (7, .int .i64 0)] w (by kernel_rfl) ?_
  refine W_nil ?_
  refine N_then ?_
  obtain ⟨out607, hw608, hmo609⟩ := gx_bind hm
  refine G_meet (fun a w' => ∃ (o610 : Unit), out607 = .inl o610 ∧ Mem [] w w' [] ∧ Sat Try.f80.ntmps [] a) ?_ ?_
  · refine G_block ?_
    refine G_while (σ := Int) (ρ := (Unit) ⊕ (Bool)) (fun s600 a w' => Mem [] w w' [] ∧ Sat Try.f80.ntmps [(0, .slice p517 x515.length c518), (1, .int .i64 x520), (2, .int .i64 x521), (7, .int .i64 s600)] a) hw608 (fun a ha => ⟨M0.pick [] (by kernel_rfl), ha.sub (by kernel_rfl)⟩) ?_
    clear hm
    intro s600 x601 hm hout602 a603 w604 ⟨M605, hS606⟩
    refine G_use hS606 ?_
    refine G_seq ?_
    refine G_seq ?_
    refine G_region ?_
    refine W_run 4 [(0, .slice p517 x515.length c518), (1, .int .i64 x520), (2, .int .i64 x521), (7, .int .i64 s600), (11, .bool (decide (s600 < (x515.length : Int))))] w604 (by kernel_rfl) ?_
    refine W_nil ?_
    refine N_then ?_
    rcases gx_bif hm with ⟨hc611, hm⟩ | ⟨hc611, hm⟩
    · refine G_cond_t (b := (decide (s600 < (x515.length : Int)))) hc611 (by kernel_rfl) ?_
      refine G_skip ?_
      refine N_then ?_
      refine G_seq ?_
      refine G_block ?_
      refine G_seq ?_
      obtain ⟨o627, ho628, hm629⟩ := gx_bind hm
      refine G_meet (fun a w' => Mem [] w w' [] ∧ Sat Try.f80.ntmps [(0, .slice p517 x515.length c518), (1, .int .i64 x520), (2, .int .i64 x521), (7, .int .i64 s600), (37, .bool o627)] a) ?_ ?_
      · have hm := ho628
        refine G_quiet (by kernel_rfl) (by kernel_rfl) M605 ?_
        refine Z_runs [.slice p517 x515.length c518, .int .i64 s600] [(0, .slice p517 x515.length c518), (1, .int .i64 x520), (2, .int .i64 x521), (7, .int .i64 s600), (14, .slice p517 x515.length c518), (15, .int .i64 s600)] (fun w_ => by kernel_rfl) (by kernel_rfl) ?_
        obtain ⟨y630, hy630, hm⟩ := gx_bind hm
        refine Z_val (elemP p517 (s600.toNat * 1)) (by kernel_rfl) (fun w_ M_ => (E_index (E := encI) _ _ _ x515.length c518 .i64 s600 1 (y := y630) rfl (by kernel_rfl) (by kernel_rfl) (by kernel_rfl) (h519.mem0 M_) rfl hy630)) ?_
        refine Z_val (.int .i64 y630) (by kernel_rfl) (fun w_ M_ => (E_loadE (E := encI) _ _ false 1 s600 0 (s600.toNat * 1) y630 (.int .i64 y630) rfl (by kernel_rfl) (by kernel_rfl) (by kernel_rfl) (h519.mem0 M_) hy630 rfl)) ?_
        refine Z_runs [.int .i64 x520, .int .i64 x521] [(0, .slice p517 x515.length c518), (1, .int .i64 x520), (2, .int .i64 x521), (7, .int .i64 s600), (17, .int .i64 y630), (18, .int .i64 x520), (19, .int .i64 x521)] (fun w_ => by kernel_rfl) (by kernel_rfl) ?_
        obtain ⟨r631, hr631, hm⟩ := gx_bind hm
        refine Z_call 57 #[.int .i64 y630, .int .i64 x520, .int .i64 x521] (.bool r631) (by kernel_rfl) (fun w_ => by kernel_rfl) (fun w_ M_ => (c_s_l1In w_ y630 x520 x521 hr631).mono fun e w2_ h_ => ⟨h_.1, M_.call0 h_.2⟩) ?_
        refine Z_runs [.bool (!r631), .bool (!r631)] [(0, .slice p517 x515.length c518), (1, .int .i64 x520), (2, .int .i64 x521), (7, .int .i64 s600), (22, .bool (!r631))] (fun w_ => by kernel_rfl) (by kernel_rfl) ?_
        rcases gx_bif hm with ⟨hc635, hm⟩ | ⟨hc635, hm⟩
        · refine Z_known 22 true (by kernel_rfl) hc635 ?_
          refine Z_runs [undef, undef, undef, undef, undef, undef, undef, undef, undef, undef, undef, undef, undef, undef, .bool true] [(0, .slice p517 x515.length c518), (1, .int .i64 x520), (2, .int .i64 x521), (7, .int .i64 s600), (37, .bool true)] (fun w_ => by kernel_rfl) (by kernel_rfl) ?_
          refine Z_end fun w636 M637 => ?_
          obtain rfl := Option.some.inj hm
          exact N_meet fun a ha => ⟨M637.pick [] (by kernel_rfl), ha.sub (by kernel_rfl)⟩
        · refine Z_known 22 false (by kernel_rfl) hc635 ?_
          refine Z_runs [.int .i64 s600, .bool (decide (s600 > 0)), .bool (decide (s600 > 0))] [(0, .slice p517 x515.length c518), (1, .int .i64 x520), (2, .int .i64 x521), (7, .int .i64 s600), (22, .bool false), (25, .bool (decide (s600 > 0)))] (fun w_ => by kernel_rfl) (by kernel_rfl) ?_
          rcases gx_bif hm with ⟨hc638, hm⟩ | ⟨hc638, hm⟩
          · refine Z_known 25 true (by kernel_rfl) hc638 ?_
            refine Z_runs [.slice p517 x515.length c518, .int .i64 s600, .int .i64 (w64 (s600 - 1))] [(0, .slice p517 x515.length c518), (1, .int .i64 x520), (2, .int .i64 x521), (7, .int .i64 s600), (22, .bool false), (25, .bool true), (26, .slice p517 x515.length c518), (28, .int .i64 (w64 (s600 - 1)))] (fun w_ => by kernel_rfl) (by kernel_rfl) ?_
            obtain ⟨y639, hy639, hm⟩ := gx_bind hm
            refine Z_val (elemP p517 ((w64 (s600 - 1)).toNat * 1)) (by kernel_rfl) (fun w_ M_ => (E_index (E := encI) _ _ _ x515.length c518 .i64 (w64 (s600 - 1)) 1 (y := y639) rfl (by kernel_rfl) (by kernel_rfl) (by kernel_rfl) (h519.mem0 M_) rfl hy639)) ?_
            refine Z_val (.int .i64 y639) (by kernel_rfl) (fun w_ M_ => (E_loadE (E := encI) _ _ false 1 (w64 (s600 - 1)) 0 ((w64 (s600 - 1)).toNat * 1) y639 (.int .i64 y639) rfl (by kernel_rfl) (by kernel_rfl) (by kernel_rfl) (h519.mem0 M_) hy639 rfl)) ?_
            refine Z_runs [.slice p517 x515.length c518, .int .i64 s600] [(0, .slice p517 x515.length c518), (1, .int .i64 x520), (2, .int .i64 x521), (7, .int .i64 s600), (22, .bool false), (25, .bool true), (30, .int .i64 y639), (31, .slice p517 x515.length c518), (32, .int .i64 s600)] (fun w_ => by kernel_rfl) (by kernel_rfl) ?_
            obtain ⟨y640, hy640, hm⟩ := gx_bind hm
            refine Z_val (elemP p517 (s600.toNat * 1)) (by kernel_rfl) (fun w_ M_ => (E_index (E := encI) _ _ _ x515.length c518 .i64 s600 1 (y := y640) rfl (by kernel_rfl) (by kernel_rfl) (by kernel_rfl) (h519.mem0 M_) rfl hy640)) ?_
            refine Z_val (.int .i64 y640) (by kernel_rfl) (fun w_ M_ => (E_loadE (E := encI) _ _ false 1 s600 0 (s600.toNat * 1) y640 (.int .i64 y640) rfl (by kernel_rfl) (by kernel_rfl) (by kernel_rfl) (h519.mem0 M_) hy640 rfl)) ?_
            refine Z_runs [.bool (decide (y639 ≥ y640)), .bool (decide (y639 ≥ y640)), .bool (decide (y639 ≥ y640))] [(0, .slice p517 x515.length c518), (1, .int .i64 x520), (2, .int .i64 x521), (7, .int .i64 s600), (37, .bool (decide (y639 ≥ y640)))] (fun w_ => by kernel_rfl) (by kernel_rfl) ?_
            refine Z_end fun w641 M642 => ?_
            obtain rfl := Option.some.inj hm
            exact N_meet fun a ha => ⟨M642.pick [] (by kernel_rfl), ha.sub (by kernel_rfl)⟩
          · refine Z_known 25 false (by kernel_rfl) hc638 ?_
            refine Z_runs [undef, undef, undef, undef, undef, undef, undef, undef, undef, undef, .bool false, .bool false] [(0, .slice p517 x515.length c518), (1, .int .i64 x520), (2, .int .i64 x521), (7, .int .i64 s600), (37, .bool false)] (fun w_ => by kernel_rfl) (by kernel_rfl) ?_
            refine Z_end fun w643 M644 => ?_
            obtain rfl := Option.some.inj hm
            exact N_meet fun a ha => ⟨M644.pick [] (by kernel_rfl), ha.sub (by kernel_rfl)⟩
      · intro a647 w645 ⟨M646, hS648⟩
        refine N_use hS648 ?_
        have hm := hm629
        refine N_then ?_
        rcases gx_bif hm with ⟨hc649, hm⟩ | ⟨hc649, hm⟩
        · refine G_cond_t (b := o627) hc649 (by kernel_rfl) ?_
          refine G_seq ?_
          refine G_region ?_
          refine W_run 1 [(6, .bool false)] w645 (by kernel_rfl) ?_
          refine W_nil ?_
          refine N_then ?_
          refine G_ret ?_
          refine N_block_ret ?_
          refine N_then_ret ?_
          refine N_then_ret ?_
          obtain rfl := Option.some.inj hm
          obtain rfl := hout602 _ rfl
          have hm := hmo609; simp only [Sum.elim_inr] at hm
          refine N_block_ret ?_
          refine N_meet_ret ?_
          refine N_then_ret ?_
          obtain rfl := Option.some.inj hm
          refine N_ret [.bool false] (RVs_cons (RV_tmp (by kernel_rfl)) RVs_nil) ?_
          exact ⟨rfl, M646.pick [] (by kernel_rfl)⟩
        · refine G_cond_f (b := o627) hc649 (by kernel_rfl) ?_
          refine G_skip ?_
          refine N_block ?_
          refine N_then ?_
          refine G_region ?_
          refine W_run 3 [(0, .slice p517 x515.length c518), (1, .int .i64 x520), (2, .int .i64 x521), (7, .int .i64 (w64 (s600 + 1)))] w645 (by kernel_rfl) ?_
          refine W_nil ?_
          obtain rfl := Option.some.inj hm
          exact N_loop fun a ha => ⟨_, rfl, M646.pick [] (by kernel_rfl), ha.sub (by kernel_rfl)⟩
    · refine G_cond_f (b := (decide (s600 < (x515.length : Int)))) hc611 (by kernel_rfl) ?_
      refine G_exit ?_
      refine N_then_exit ?_
      refine N_then_exit ?_
      refine N_block_eq ?_
      obtain rfl := Option.some.inj hm
      obtain rfl := hout602 _ rfl
      exact N_meet fun a ha => ⟨_, rfl, M605.pick [] (by kernel_rfl), ha.sub (by kernel_rfl)⟩
  · intro a650 w651 ⟨o610, hout_, M652, hS653⟩
    refine N_use hS653 ?_
    subst hout_
    have hm := hmo609; simp only [Sum.elim_inl] at hm
    refine N_then ?_
    refine G_seq ?_
    refine G_region ?_
    refine W_run 1 [(6, .bool true)] w651 (by kernel_rfl) ?_
    refine W_nil ?_
    refine N_then ?_
    refine G_ret ?_
    obtain rfl := Option.some.inj hm
    refine N_ret [.bool true] (RVs_cons (RV_tmp (by kernel_rfl)) RVs_nil) ?_
    exact ⟨rfl, M652.pick [] (by kernel_rfl)⟩
theorem c_s_l1Has (w : World) (x713 : List Int) (p715 : Option Addr) (c716 : Nat) (h717 : rdS encI w x713 p715 c716) (x718 : Int) {r : Bool} (hm : M.s_l1Has x713 x718 = some r) :
    Calls Try.prog 81 #[.slice p715 x713.length c716, .int .i64 x718] w fun e w' => e = .returned (.bool r) ∧ Mem [] w w' [] := by
  unfold M.s_l1Has at hm
  refine C_enter Try.func81 rfl (by kernel_rfl) ?_
  have M0 := Mem.refl [] w
  refine G_seq ?_
  refine G_region ?_
  refine W_run 1 [(0, .slice p715 x713.length c716), (1, .int .i64 x718)] w (by kernel_rfl) ?_
  refine W_nil ?_
  refine N_then ?_
  refine G_seq ?_
  refine G_seq ?_
  refine G_region ?_
  refine W_run 1 [(0, .slice p715 x713.length c716), (1, .int .i64 x718), (5, .int .i64 0)] w (by kernel_rfl) ?_
  refine W_nil ?_
  refine N_then ?_
  obtain ⟨out732, hw733, hmo734⟩ := gx_bind hm
  refine G_meet (fun a w' => ∃ (o735 : Unit), out732 = .inl o735 ∧ Mem [] w w' [] ∧ Sat Try.f81.ntmps [] a) ?_ ?_
  · refine G_block ?_
    refine G_while (σ := Int) (ρ := (Unit) ⊕ (Bool)) (fun s725 a w' => Mem [] w w' [] ∧ Sat Try.f81.ntmps [(0, .slice p715 x713.length c716), (1, .int .i64 x718), (5, .int .i64 s725)] a) hw733 (fun a ha => ⟨M0.pick [] (by kernel_rfl), ha.sub (by kernel_rfl)⟩) ?_
    clear hm
    intro s725 x726 hm hout727 a728 w729 ⟨M730, hS731⟩
    refine G_use hS731 ?_
    refine G_seq ?_
    refine G_seq ?_
    refine G_region ?_
    refine W_run 4 [(0, .slice p715 x713.length c716), (1, .int .i64 x718), (5, .int .i64 s725), (9, .bool (decide (s725 < (x713.length : Int))))] w729 (by kernel_rfl) ?_
    refine W_nil ?_
    refine N_then ?_
    rcases gx_bif hm with ⟨hc736, hm⟩ | ⟨hc736, hm⟩
    · refine G_cond_t (b := (decide (s725 < (x713.length : Int)))) hc736 (by kernel_rfl) ?_
      refine G_skip ?_
      refine N_then ?_
      refine G_seq ?_
      refine G_block ?_
      refine G_seq ?_
      refine G_region ?_
      refine W_run 2 [(0, .slice p715 x713.length c716), (1, .int .i64 x718), (5, .int .i64 s725), (12, .slice p715 x713.length c716), (13, .int .i64 s725)] w729 (by kernel_rfl) ?_
      obtain ⟨y737, hy737, hm⟩ := gx_bind hm
      refine W_val (elemP p715 (s725.toNat * 1)) w729 (by kernel_rfl) (E_index (E := encI) _ _ _ x713.length c716 .i64 s725 1 (y := y737) rfl (by kernel_rfl) (by kernel_rfl) (by kernel_rfl) (h717.mem0 M730) rfl hy737) ?_
      refine W_val (.int .i64 y737) w729 (by kernel_rfl) (E_loadE (E := encI) _ _ false 1 s725 0 (s725.toNat * 1) y737 (.int .i64 y737) rfl (by kernel_rfl) (by kernel_rfl) (by kernel_rfl) (h717.mem0 M730) hy737 rfl) ?_
      refine W_run 2 [(0, .slice p715 x713.length c716), (1, .int .i64 x718), (5, .int .i64 s725), (17, .bool (y737 == x718))] w729 (by kernel_rfl) ?_
      refine W_nil ?_
      refine N_then ?_
      rcases gx_bif hm with ⟨hc738, hm⟩ | ⟨hc738, hm⟩
      · refine G_cond_t (b := (y737 == x718)) hc738 (by kernel_rfl) ?_
        refine G_seq ?_
        refine G_region ?_
        refine W_run 1 [(4, .bool true)] w729 (by kernel_rfl) ?_
        refine W_nil ?_
        refine N_then ?_
        refine G_ret ?_
        refine N_block_ret ?_
        refine N_then_ret ?_
        refine N_then_ret ?_
        obtain rfl := Option.some.inj hm
        obtain rfl := hout727 _ rfl
        have hm := hmo734; simp only [Sum.elim_inr] at hm
        refine N_block_ret ?_
        refine N_meet_ret ?_
        refine N_then_ret ?_
        obtain rfl := Option.some.inj hm
        refine N_ret [.bool true] (RVs_cons (RV_tmp (by kernel_rfl)) RVs_nil) ?_
        exact ⟨rfl, M730.pick [] (by kernel_rfl)⟩
      · refine G_cond_f (b := (y737 == x718)) hc738 (by kernel_rfl) ?_
        refine G_skip ?_
        refine N_block ?_
        refine N_then ?_
        refine G_region ?_
        refine W_run 3 [(0, .slice p715 x713.length c716), (1, .int .i64 x718), (5, .int .i64 (w64 (s725 + 1)))] w729 (by kernel_rfl) ?_
        refine W_nil ?_
        obtain rfl := Option.some.inj hm
        exact N_loop fun a ha => ⟨_, rfl, M730.pick [] (by kernel_rfl), ha.sub (by kernel_rfl)⟩
    · refine G_cond_f (b := (decide (s725 < (x713.length : Int)))) hc736 (by kernel_rfl) ?_
      refine G_exit ?_
      refine N_then_exit ?_
      refine N_then_exit ?_
      refine N_block_eq ?_
      obtain rfl := Option.some.inj hm
      obtain rfl := hout727 _ rfl
      exact N_meet fun a ha => ⟨_, rfl, M730.pick [] (by kernel_rfl), ha.sub (by kernel_rfl)⟩
  · intro a739 w740 ⟨o735, hout_, M741, hS742⟩
    refine N_use hS742 ?_
    subst hout_
    have hm := hmo734; simp only [Sum.elim_inl] at hm
    refine N_then ?_
    refine G_seq ?_
    refine G_region ?_
    refine W_run 1 [(4, .bool false)] w740 (by kernel_rfl) ?_
    refine W_nil ?_
    refine N_then ?_
    refine G_ret ?_
    obtain rfl := Option.some.inj hm
    refine N_ret [.bool false] (RVs_cons (RV_tmp (by kernel_rfl)) RVs_nil) ?_
    exact ⟨rfl, M741.pick [] (by kernel_rfl)⟩
theorem c_s_l18Good (w : World) (x398 : List Int) (p400 : Option Addr) (c401 : Nat) (h402 : rdS encI w x398 p400 c401) (x403 : List Balloon) (p405 : Option Addr) (c406 : Nat) (h407 : rdD deepBalloon w x403 p405 c406) {r : Bool} (hm : M.s_l18Good x398 x403 = some r) :
    Calls Try.prog 47 #[.slice p400 x398.length c401, .slice p405 x403.length c406] w fun e w' => e = .returned (.bool r) ∧ Mem [] w w' [] := by
  unfold M.s_l18Good at hm
  refine C_enter Try.func47 rfl (by kernel_rfl) ?_
  have M0 := Mem.refl [] w
  refine G_seq ?_
  refine G_region ?_
  refine W_run 1 [(0, .slice p400 x398.length c401), (1, .slice p405 x403.length c406)] w (by kernel_rfl) ?_
  refine W_nil ?_
  refine N_then ?_
  refine G_seq ?_
  refine G_seq ?_
  refine G_region ?_
  refine W_run 1 [(0, .slice p400 x398.length c401), (1, .slice p405 x403.length c406), (9, .slice p400 x398.length c401)] w (by kernel_rfl) ?_
  obtain ⟨r465, hr465, hm⟩ := gx_bind hm
  refine W_call 79 #[.slice p400 x398.length c401] (by kernel_rfl) (by kernel_rfl) ?_
  refine (c_s_l2Good w x398 p400 c401 (h402.mem0 M0) hr465).mono ?_
  rintro e_ w466 ⟨rfl, K467⟩
  have M468 := M0.call0 K467
  refine ⟨_, rfl, ?_⟩
  refine W_run 1 [(0, .slice p400 x398.length c401), (1, .slice p405 x403.length c406), (11, .bool (!r465))] w466 (by kernel_rfl) ?_
  refine W_nil ?_
  refine N_then ?_
  rcases gx_bif hm with ⟨hc469, hm⟩ | ⟨hc469, hm⟩
  · refine G_cond_t (b := (!r465)) hc469 (by kernel_rfl) ?_
    refine G_seq ?_
    refine G_region ?_
    refine W_run 1 [(4, .bool false)] w466 (by kernel_rfl) ?_
    refine W_nil ?_
    refine N_then ?_
    refine G_ret ?_
    refine N_then_ret ?_
    obtain rfl := Option.some.inj hm
    refine N_ret [.bool false] (RVs_cons (RV_tmp (by kernel_rfl)) RVs_nil) ?_
    exact ⟨rfl, M468.pick [] (by kernel_rfl)⟩
  · refine G_cond_f (b := (!r465)) hc469 (by kernel_rfl) ?_
    refine G_skip ?_
    refine N_then ?_
    refine G_seq ?_
    refine G_region ?_
    refine W_lit (E := encI) ([] : List Int) 0 [] 3 M468 (by kernel_rfl) (by kernel_rfl) (by kernel_rfl) (by kernel_rfl) (by kernel_rfl) ?_
    intro p470 c471 sg472 w473 ho474 M475
    refine W_run 1 [(0, .slice p400 x398.length c401), (1, .slice p405 x403.length c406), (5, .slice p470 ([] : List Int).length c471)] w473 (by kernel_rfl) ?_
    refine W_nil ?_
    refine N_then ?_
    refine G_seq ?_
    refine G_seq ?_
    refine G_region ?_
    refine W_run 1 [(0, .slice p400 x398.length c401), (1, .slice p405 x403.length c406), (5, .slice p470 ([] : List Int).length c471), (6, .int .i64 0)] w473 (by kernel_rfl) ?_
    refine W_nil ?_
    refine N_then ?_
    obtain ⟨out1038, hw1039, hmo1040⟩ := gx_bind hm
    refine G_meet (fun a w' => ∃ (o1046 : Unit), out1038 = .inl o1046 ∧ Mem [] w w' [] ∧ Sat Try.f47.ntmps [] a) ?_ ?_
    · refine G_block ?_
      refine G_while (σ := List Int × Int) (ρ := (Unit) ⊕ (Bool)) (fun s1031 a w' => ∃ (p1041 : Option Addr), ∃ (c1042 : Nat), ∃ (sg1043 : Seg), ownS encI s1031.1 p1041 c1042 sg1043 ∧ Mem [] w w' [sg1043] ∧ Sat Try.f47.ntmps [(0, .slice p400 x398.length c401), (1, .slice p405 x403.length c406), (5, .slice p1041 s1031.1.length c1042), (6, .int .i64 s1031.2)] a) hw1039 (fun a ha => ⟨p470, c471, sg472, ho474, M475.pick [0] (by kernel_rfl), ha.sub (by kernel_rfl)⟩) ?_
      clear hm
      intro s1031 x1032 hm hout1033 a1034 w1035 ⟨p1041, c1042, sg1043, ho1044, M1036, hS1037⟩
      refine G_use hS1037 ?_
      refine G_seq ?_
      refine G_seq ?_
      refine G_region ?_
      refine W_run 4 [(0, .slice p400 x398.length c401), (1, .slice p405 x403.length c406), (5, .slice p1041 s1031.1.length c1042), (6, .int .i64 s1031.2), (16, .bool (decide (s1031.2 < (x403.length : Int))))] w1035 (by kernel_rfl) ?_
      refine W_nil ?_
      refine N_then ?_
      rcases gx_bif hm with ⟨hc1047, hm⟩ | ⟨hc1047, hm⟩
      · refine G_cond_t (b := (decide (s1031.2 < (x403.length : Int)))) hc1047 (by kernel_rfl) ?_
        refine G_skip ?_
        refine N_then ?_
        refine G_seq ?_
        refine G_block ?_
        refine G_seq ?_
        refine G_region ?_
        refine W_run 2 [(0, .slice p400 x398.length c401), (1, .slice p405 x403.length c406), (5, .slice p1041 s1031.1.length c1042), (6, .int .i64 s1031.2), (19, .slice p405 x403.length c406), (20, .int .i64 s1031.2)] w1035 (by kernel_rfl) ?_
        obtain ⟨y1048, hy1048, hm⟩ := gx_bind hm
        obtain ⟨zs1049, hz1050, hr1051, hi1052⟩ := id h407
        obtain ⟨g1053, hg1054⟩ := gxIdx_fst hz1050 hy1048
        refine W_val (elemP p405 (s1031.2.toNat * 3)) w1035 (by kernel_rfl) (E_index (E := deepBalloon.E) _ _ _ x403.length c406 .i64 s1031.2 3 (y := (y1048, g1053)) rfl (by kernel_rfl) (by kernel_rfl) (by kernel_rfl) (hr1051.mem0 M1036) (len_fst hz1050) hg1054) ?_
        refine W_val (.agg #[.int .i64 y1048.Guest, .int .i64 y1048.Goal, .slice ((g1053 0).1) y1048.Gave.length ((g1053 0).2)]) w1035 (by kernel_rfl) (E_loadE (E := deepBalloon.E) _ _ true 3 s1031.2 0 (s1031.2.toNat * 3) (y1048, g1053) (.agg #[.int .i64 y1048.Guest, .int .i64 y1048.Goal, .slice ((g1053 0).1) y1048.Gave.length ((g1053 0).2)]) rfl (by kernel_rfl) (by kernel_rfl) (by kernel_rfl) (hr1051.mem0 M1036) hg1054 rfl) ?_
        refine W_new (fun b => .pointer (some ⟨b, 0, none⟩)) (.cells ⟨[.int .i64 0, .int .i64 0, .slice none 0 0]⟩ 50 (0, 0)) M1036 rfl (by kernel_rfl) (by kernel_rfl) ?_
        intro b1058 w1059 M1060
        refine W_store _ _ _ true 3 b1058 0 [.int .i64 0, .int .i64 0, .slice none 0 0] 50 (.agg #[.int .i64 y1048.Guest, .int .i64 y1048.Goal, .slice ((g1053 0).1) y1048.Gave.length ((g1053 0).2)]) 1 [.int .i64 y1048.Guest, .int .i64 y1048.Goal, .slice ((g1053 0).1) y1048.Gave.length ((g1053 0).2)] M1060 (by kernel_rfl) rfl (by kernel_rfl) (by kernel_rfl) (by kernel_rfl) (by kernel_rfl) (by kernel_rfl) (by kernel_rfl) (by kernel_rfl) (by kernel_rfl) ?_
        intro w1061 M1062
        refine W_nil ?_
        refine N_then ?_
        refine G_seq ?_
        refine G_seq ?_
        obtain ⟨o1097, ho1098, hm1099⟩ := gx_bind hm
        refine G_meet (fun a w' => Mem [] w w' [sg1043, [(b1058, .cells ⟨[.int .i64 y1048.Guest, .int .i64 y1048.Goal, .slice ((g1053 0).1) y1048.Gave.length ((g1053 0).2)]⟩ 50 (0, 0))]] ∧ Sat Try.f47.ntmps [(0, .slice p400 x398.length c401), (1, .slice p405 x403.length c406), (5, .slice p1041 s1031.1.length c1042), (6, .int .i64 s1031.2), (7, .pointer (some ⟨b1058, 0, none⟩)), (56, .bool o1097)] a) ?_ ?_
        · have hm := ho1098
          refine G_quiet (by kernel_rfl) (by kernel_rfl) M1062 ?_
          refine Z_runs [.pointer (some ⟨b1058, 0, none⟩)] [(0, .slice p400 x398.length c401), (1, .slice p405 x403.length c406), (5, .slice p1041 s1031.1.length c1042), (6, .int .i64 s1031.2), (7, .pointer (some ⟨b1058, 0, none⟩)), (23, .pointer (some ⟨b1058, 0, none⟩))] (fun w_ => by kernel_rfl) (by kernel_rfl) ?_
          refine Z_val (.int .i64 y1048.Guest) (by kernel_rfl) (fun w_ M_ => (E_load (e := 50) (fr := (0, 0)) _ _ false 1 b1058 0 [.int .i64 y1048.Guest, .int .i64 y1048.Goal, .slice ((g1053 0).1) y1048.Gave.length ((g1053 0).2)] (.int .i64 y1048.Guest) rfl (by kernel_rfl) (by kernel_rfl) (by kernel_rfl) (M_.blk 1 (b := b1058) (o := .cells ⟨[.int .i64 y1048.Guest, .int .i64 y1048.Goal, .slice ((g1053 0).1) y1048.Gave.length ((g1053 0).2)]⟩ 50 (0, 0)) (by kernel_rfl)))) ?_
          obtain ⟨r1100, hr1100, hm⟩ := gx_bind hm
          refine Z_call 57 #[.int .i64 y1048.Guest, .int .i64 1, .int .i64 4] (.bool r1100) (by kernel_rfl) (fun w_ => by kernel_rfl) (fun w_ M_ => (c_s_l1In w_ y1048.Guest 1 4 hr1100).mono fun e w2_ h_ => ⟨h_.1, M_.call0 h_.2⟩) ?_
          refine Z_runs [.bool (!r1100), .bool (!r1100)] [(0, .slice p400 x398.length c401), (1, .slice p405 x403.length c406), (5, .slice p1041 s1031.1.length c1042), (6, .int .i64 s1031.2), (7, .pointer (some ⟨b1058, 0, none⟩)), (27, .bool (!r1100))] (fun w_ => by kernel_rfl) (by kernel_rfl) ?_
          rcases gx_bif hm with ⟨hc1104, hm⟩ | ⟨hc1104, hm⟩
          · refine Z_known 27 true (by kernel_rfl) hc1104 ?_
            refine Z_runs [undef, undef, undef, undef, .bool true, .bool true, undef, undef, undef, undef, undef, undef, undef, undef, undef, undef, undef, undef, undef, .bool true, .bool true, undef, undef, undef, undef, undef, undef, undef, .bool true] [(0, .slice p400 x398.length c401), (1, .slice p405 x403.length c406), (5, .slice p1041 s1031.1.length c1042), (6, .int .i64 s1031.2), (7, .pointer (some ⟨b1058, 0, none⟩)), (56, .bool true)] (fun w_ => by kernel_rfl) (by kernel_rfl) ?_
            refine Z_end fun w1105 M1106 => ?_
            obtain rfl := Option.some.inj hm
            exact N_meet fun a ha => ⟨M1106.pick [0, 1] (by kernel_rfl), ha.sub (by kernel_rfl)⟩
          · refine Z_known 27 false (by kernel_rfl) hc1104 ?_
            refine Z_runs [.pointer (some ⟨b1058, 1, none⟩)] [(0, .slice p400 x398.length c401), (1, .slice p405 x403.length c406), (5, .slice p1041 s1031.1.length c1042), (6, .int .i64 s1031.2), (7, .pointer (some ⟨b1058, 0, none⟩)), (27, .bool false), (28, .pointer (some ⟨b1058, 1, none⟩))] (fun w_ => by kernel_rfl) (by kernel_rfl) ?_
            refine Z_val (.int .i64 y1048.Goal) (by kernel_rfl) (fun w_ M_ => (E_load (e := 50) (fr := (0, 0)) _ _ false 1 b1058 1 [.int .i64 y1048.Guest, .int .i64 y1048.Goal, .slice ((g1053 0).1) y1048.Gave.length ((g1053 0).2)] (.int .i64 y1048.Goal) rfl (by kernel_rfl) (by kernel_rfl) (by kernel_rfl) (M_.blk 1 (b := b1058) (o := .cells ⟨[.int .i64 y1048.Guest, .int .i64 y1048.Goal, .slice ((g1053 0).1) y1048.Gave.length ((g1053 0).2)]⟩ 50 (0, 0)) (by kernel_rfl)))) ?_
            obtain ⟨r1107, hr1107, hm⟩ := gx_bind hm
            refine Z_call 57 #[.int .i64 y1048.Goal, .int .i64 0, .int .i64 16] (.bool r1107) (by kernel_rfl) (fun w_ => by kernel_rfl) (fun w_ M_ => (c_s_l1In w_ y1048.Goal 0 16 hr1107).mono fun e w2_ h_ => ⟨h_.1, M_.call0 h_.2⟩) ?_
            refine Z_runs [.bool (!r1107), .bool (!r1107), .bool (!r1107)] [(0, .slice p400 x398.length c401), (1, .slice p405 x403.length c406), (5, .slice p1041 s1031.1.length c1042), (6, .int .i64 s1031.2), (7, .pointer (some ⟨b1058, 0, none⟩)), (33, .bool (!r1107))] (fun w_ => by kernel_rfl) (by kernel_rfl) ?_
            rcases gx_bif hm with ⟨hc1111, hm⟩ | ⟨hc1111, hm⟩
            · refine Z_known 33 true (by kernel_rfl) hc1111 ?_
              refine Z_runs [undef, undef, undef, undef, undef, undef, undef, undef, undef, undef, undef, undef, undef, .bool true, .bool true, undef, undef, undef, undef, undef, undef, undef, .bool true] [(0, .slice p400 x398.length c401), (1, .slice p405 x403.length c406), (5, .slice p1041 s1031.1.length c1042), (6, .int .i64 s1031.2), (7, .pointer (some ⟨b1058, 0, none⟩)), (56, .bool true)] (fun w_ => by kernel_rfl) (by kernel_rfl) ?_
              refine Z_end fun w1112 M1113 => ?_
              obtain rfl := Option.some.inj hm
              exact N_meet fun a ha => ⟨M1113.pick [0, 1] (by kernel_rfl), ha.sub (by kernel_rfl)⟩
            · refine Z_known 33 false (by kernel_rfl) hc1111 ?_
              refine Z_runs [.int .i64 s1031.2, .bool (decide (s1031.2 > 0)), .bool (decide (s1031.2 > 0))] [(0, .slice p400 x398.length c401), (1, .slice p405 x403.length c406), (5, .slice p1041 s1031.1.length c1042), (6, .int .i64 s1031.2), (7, .pointer (some ⟨b1058, 0, none⟩)), (33, .bool false), (36, .bool (decide (s1031.2 > 0)))] (fun w_ => by kernel_rfl) (by kernel_rfl) ?_
              rcases gx_bif hm with ⟨hc1114, hm⟩ | ⟨hc1114, hm⟩
              · refine Z_known 36 true (by kernel_rfl) hc1114 ?_
                refine Z_runs [.slice p405 x403.length c406, .int .i64 s1031.2, .int .i64 (w64 (s1031.2 - 1))] [(0, .slice p400 x398.length c401), (1, .slice p405 x403.length c406), (5, .slice p1041 s1031.1.length c1042), (6, .int .i64 s1031.2), (7, .pointer (some ⟨b1058, 0, none⟩)), (33, .bool false), (36, .bool true), (37, .slice p405 x403.length c406), (39, .int .i64 (w64 (s1031.2 - 1)))] (fun w_ => by kernel_rfl) (by kernel_rfl) ?_
                obtain ⟨y1115, hy1115, hm⟩ := gx_bind hm
                obtain ⟨g1116, hg1117⟩ := gxIdx_fst hz1050 hy1115
                refine Z_val (elemP p405 ((w64 (s1031.2 - 1)).toNat * 3)) (by kernel_rfl) (fun w_ M_ => (E_index (E := deepBalloon.E) _ _ _ x403.length c406 .i64 (w64 (s1031.2 - 1)) 3 (y := (y1115, g1116)) rfl (by kernel_rfl) (by kernel_rfl) (by kernel_rfl) (hr1051.mem0 M_) (len_fst hz1050) hg1117)) ?_
                refine Z_val (elemP p405 ((w64 (s1031.2 - 1)).toNat * 3 + 0)) (by kernel_rfl) (fun w_ M_ => (E_fieldE (E := deepBalloon.E) _ _ 0 ((w64 (s1031.2 - 1)).toNat * 3) 0 rfl (by kernel_rfl) (by kernel_rfl) (hr1051.mem0 M_) hg1117)) ?_
                refine Z_val (.int .i64 y1115.Guest) (by kernel_rfl) (fun w_ M_ => (E_loadE (E := deepBalloon.E) _ _ false 1 (w64 (s1031.2 - 1)) 0 ((w64 (s1031.2 - 1)).toNat * 3 + 0) (y1115, g1116) (.int .i64 y1115.Guest) rfl (by kernel_rfl) (by kernel_rfl) (by kernel_rfl) (hr1051.mem0 M_) hg1117 rfl)) ?_
                refine Z_runs [.pointer (some ⟨b1058, 0, none⟩)] [(0, .slice p400 x398.length c401), (1, .slice p405 x403.length c406), (5, .slice p1041 s1031.1.length c1042), (6, .int .i64 s1031.2), (7, .pointer (some ⟨b1058, 0, none⟩)), (33, .bool false), (36, .bool true), (42, .int .i64 y1115.Guest), (43, .pointer (some ⟨b1058, 0, none⟩))] (fun w_ => by kernel_rfl) (by kernel_rfl) ?_
                refine Z_val (.int .i64 y1048.Guest) (by kernel_rfl) (fun w_ M_ => (E_load (e := 50) (fr := (0, 0)) _ _ false 1 b1058 0 [.int .i64 y1048.Guest, .int .i64 y1048.Goal, .slice ((g1053 0).1) y1048.Gave.length ((g1053 0).2)] (.int .i64 y1048.Guest) rfl (by kernel_rfl) (by kernel_rfl) (by kernel_rfl) (M_.blk 1 (b := b1058) (o := .cells ⟨[.int .i64 y1048.Guest, .int .i64 y1048.Goal, .slice ((g1053 0).1) y1048.Gave.length ((g1053 0).2)]⟩ 50 (0, 0)) (by kernel_rfl)))) ?_
                refine Z_runs [.bool (decide (y1115.Guest ≥ y1048.Guest)), .bool (decide (y1115.Guest ≥ y1048.Guest)), .bool (decide (y1115.Guest ≥ y1048.Guest)), .bool (decide (y1115.Guest ≥ y1048.Guest))] [(0, .slice p400 x398.length c401), (1, .slice p405 x403.length c406), (5, .slice p1041 s1031.1.length c1042), (6, .int .i64 s1031.2), (7, .pointer (some ⟨b1058, 0, none⟩)), (48, .bool (decide (y1115.Guest ≥ y1048.Guest)))] (fun w_ => by kernel_rfl) (by kernel_rfl) ?_
                rcases gx_bif hm with ⟨hc1119, hm⟩ | ⟨hc1119, hm⟩
                · refine Z_known 48 true (by kernel_rfl) hc1119 ?_
                  refine Z_runs [undef, undef, undef, undef, undef, undef, undef, .bool true] [(0, .slice p400 x398.length c401), (1, .slice p405 x403.length c406), (5, .slice p1041 s1031.1.length c1042), (6, .int .i64 s1031.2), (7, .pointer (some ⟨b1058, 0, none⟩)), (56, .bool true)] (fun w_ => by kernel_rfl) (by kernel_rfl) ?_
                  refine Z_end fun w1120 M1121 => ?_
                  obtain rfl := Option.some.inj hm
                  exact N_meet fun a ha => ⟨M1121.pick [0, 1] (by kernel_rfl), ha.sub (by kernel_rfl)⟩
                · refine Z_known 48 false (by kernel_rfl) hc1119 ?_
                  refine Z_runs [.pointer (some ⟨b1058, 2, none⟩)] [(0, .slice p400 x398.length c401), (1, .slice p405 x403.length c406), (5, .slice p1041 s1031.1.length c1042), (6, .int .i64 s1031.2), (7, .pointer (some ⟨b1058, 0, none⟩)), (48, .bool false), (49, .pointer (some ⟨b1058, 2, none⟩))] (fun w_ => by kernel_rfl) (by kernel_rfl) ?_
                  refine Z_val (.slice ((g1053 0).1) y1048.Gave.length ((g1053 0).2)) (by kernel_rfl) (fun w_ M_ => (E_load (e := 50) (fr := (0, 0)) _ _ false 1 b1058 2 [.int .i64 y1048.Guest, .int .i64 y1048.Goal, .slice ((g1053 0).1) y1048.Gave.length ((g1053 0).2)] (.slice ((g1053 0).1) y1048.Gave.length ((g1053 0).2)) rfl (by kernel_rfl) (by kernel_rfl) (by kernel_rfl) (M_.blk 1 (b := b1058) (o := .cells ⟨[.int .i64 y1048.Guest, .int .i64 y1048.Goal, .slice ((g1053 0).1) y1048.Gave.length ((g1053 0).2)]⟩ 50 (0, 0)) (by kernel_rfl)))) ?_
                  refine Z_runs [.slice p400 x398.length c401, .int .i64 (x398.length : Int), .int .i64 (w64 ((x398.length : Int) - 1))] [(0, .slice p400 x398.length c401), (1, .slice p405 x403.length c406), (5, .slice p1041 s1031.1.length c1042), (6, .int .i64 s1031.2), (7, .pointer (some ⟨b1058, 0, none⟩)), (48, .bool false), (50, .slice ((g1053 0).1) y1048.Gave.length ((g1053 0).2)), (53, .int .i64 (w64 ((x398.length : Int) - 1)))] (fun w_ => by kernel_rfl) (by kernel_rfl) ?_
                  obtain ⟨r1122, hr1122, hm⟩ := gx_bind hm
                  refine Z_call 80 #[.slice ((g1053 0).1) y1048.Gave.length ((g1053 0).2), .int .i64 0, .int .i64 (w64 ((x398.length : Int) - 1))] (.bool r1122) (by kernel_rfl) (fun w_ => by kernel_rfl) (fun w_ M_ => (c_s_l1Rising w_ y1048.Gave ((g1053 0).1) ((g1053 0).2) ((hi1052.mem0 M_).at_ hg1054 0 ⟨Int, encI, y1048.Gave, (g1053 0).1, (g1053 0).2⟩ (by kernel_rfl)) 0 (w64 ((x398.length : Int) - 1)) hr1122).mono fun e w2_ h_ => ⟨h_.1, M_.call0 h_.2⟩) ?_
                  refine Z_runs [.bool (!r1122), .bool (!r1122)] [(0, .slice p400 x398.length c401), (1, .slice p405 x403.length c406), (5, .slice p1041 s1031.1.length c1042), (6, .int .i64 s1031.2), (7, .pointer (some ⟨b1058, 0, none⟩)), (56, .bool (!r1122))] (fun w_ => by kernel_rfl) (by kernel_rfl) ?_
                  refine Z_end fun w1126 M1127 => ?_
                  obtain rfl := Option.some.inj hm
                  exact N_meet fun a ha => ⟨M1127.pick [0, 1] (by kernel_rfl), ha.sub (by kernel_rfl)⟩
              · refine Z_known 36 false (by kernel_rfl) hc1114 ?_
                refine Z_runs [undef, undef, undef, undef, undef, undef, undef, undef, undef, .bool false, .bool false, .bool false, .pointer (some ⟨b1058, 2, none⟩)] [(0, .slice p400 x398.length c401), (1, .slice p405 x403.length c406), (5, .slice p1041 s1031.1.length c1042), (6, .int .i64 s1031.2), (7, .pointer (some ⟨b1058, 0, none⟩)), (48, .bool false), (49, .pointer (some ⟨b1058, 2, none⟩))] (fun w_ => by kernel_rfl) (by kernel_rfl) ?_
                refine Z_val (.slice ((g1053 0).1) y1048.Gave.length ((g1053 0).2)) (by kernel_rfl) (fun w_ M_ => (E_load (e := 50) (fr := (0, 0)) _ _ false 1 b1058 2 [.int .i64 y1048.Guest, .int .i64 y1048.Goal, .slice ((g1053 0).1) y1048.Gave.length ((g1053 0).2)] (.slice ((g1053 0).1) y1048.Gave.length ((g1053 0).2)) rfl (by kernel_rfl) (by kernel_rfl) (by kernel_rfl) (M_.blk 1 (b := b1058) (o := .cells ⟨[.int .i64 y1048.Guest, .int .i64 y1048.Goal, .slice ((g1053 0).1) y1048.Gave.length ((g1053 0).2)]⟩ 50 (0, 0)) (by kernel_rfl)))) ?_
                refine Z_runs [.slice p400 x398.length c401, .int .i64 (x398.length : Int), .int .i64 (w64 ((x398.length : Int) - 1))] [(0, .slice p400 x398.length c401), (1, .slice p405 x403.length c406), (5, .slice p1041 s1031.1.length c1042), (6, .int .i64 s1031.2), (7, .pointer (some ⟨b1058, 0, none⟩)), (48, .bool false), (50, .slice ((g1053 0).1) y1048.Gave.length ((g1053 0).2)), (53, .int .i64 (w64 ((x398.length : Int) - 1)))] (fun w_ => by kernel_rfl) (by kernel_rfl) ?_
                obtain ⟨r1128, hr1128, hm⟩ := gx_bind hm
                refine Z_call 80 #[.slice ((g1053 0).1) y1048.Gave.length ((g1053 0).2), .int .i64 0, .int .i64 (w64 ((x398.length : Int) - 1))] (.bool r1128) (by kernel_rfl) (fun w_ => by kernel_rfl) (fun w_ M_ => (c_s_l1Rising w_ y1048.Gave ((g1053 0).1) ((g1053 0).2) ((hi1052.mem0 M_).at_ hg1054 0 ⟨Int, encI, y1048.Gave, (g1053 0).1, (g1053 0).2⟩ (by kernel_rfl)) 0 (w64 ((x398.length : Int) - 1)) hr1128).mono fun e w2_ h_ => ⟨h_.1, M_.call0 h_.2⟩) ?_
                refine Z_runs [.bool (!r1128), .bool (!r1128)] [(0, .slice p400 x398.length c401), (1, .slice p405 x403.length c406), (5, .slice p1041 s1031.1.length c1042), (6, .int .i64 s1031.2), (7, .pointer (some ⟨b1058, 0, none⟩)), (56, .bool (!r1128))] (fun w_ => by kernel_rfl) (by kernel_rfl) ?_
                refine Z_end fun w1132 M1133 => ?_
                obtain rfl := Option.some.inj hm
                exact N_meet fun a ha => ⟨M1133.pick [0, 1] (by kernel_rfl), ha.sub (by kernel_rfl)⟩
        · intro a1136 w1134 ⟨M1135, hS1137⟩
          refine N_use hS1137 ?_
          have hm := hm1099
          refine N_then ?_
          rcases gx_bif hm with ⟨hc1138, hm⟩ | ⟨hc1138, hm⟩
          · refine G_cond_t (b := o1097) hc1138 (by kernel_rfl) ?_
            refine G_seq ?_
            refine G_region ?_
            refine W_run 1 [(4, .bool false)] w1134 (by kernel_rfl) ?_
            refine W_nil ?_
            refine N_then ?_
            refine G_ret ?_
            refine N_then_ret ?_
            refine N_block_ret ?_
            refine N_then_ret ?_
            refine N_then_ret ?_
            obtain rfl := Option.some.inj hm
            obtain rfl := hout1033 _ rfl
            have hm := hmo1040; simp only [Sum.elim_inr] at hm
            refine N_block_ret ?_
            refine N_meet_ret ?_
            refine N_then_ret ?_
            obtain rfl := Option.some.inj hm
            refine N_ret [.bool false] (RVs_cons (RV_tmp (by kernel_rfl)) RVs_nil) ?_
            exact ⟨rfl, M1135.pick [] (by kernel_rfl)⟩
          · refine G_cond_f (b := o1097) hc1138 (by kernel_rfl) ?_
            refine G_skip ?_
            refine N_then ?_
            refine G_seq ?_
            refine G_seq ?_
            refine G_region ?_
            refine W_run 1 [(0, .slice p400 x398.length c401), (1, .slice p405 x403.length c406), (5, .slice p1041 s1031.1.length c1042), (6, .int .i64 s1031.2), (7, .pointer (some ⟨b1058, 0, none⟩)), (8, .int .i64 0)] w1134 (by kernel_rfl) ?_
            refine W_nil ?_
            refine N_then ?_
            obtain ⟨out1196, hw1197, hmo1198⟩ := gx_bind hm
            refine G_meet (fun a w' => ∃ (o1199 : Unit), out1196 = .inl o1199 ∧ Mem [] w w' [sg1043, [(b1058, .cells ⟨[.int .i64 y1048.Guest, .int .i64 y1048.Goal, .slice ((g1053 0).1) y1048.Gave.length ((g1053 0).2)]⟩ 50 (0, 0))]] ∧ Sat Try.f47.ntmps [(0, .slice p400 x398.length c401), (1, .slice p405 x403.length c406), (5, .slice p1041 s1031.1.length c1042), (6, .int .i64 s1031.2), (7, .pointer (some ⟨b1058, 0, none⟩))] a) ?_ ?_
            · refine G_block ?_
              refine G_while (σ := Int) (ρ := (Unit) ⊕ (Bool)) (fun s1189 a w' => Mem [] w w' [sg1043, [(b1058, .cells ⟨[.int .i64 y1048.Guest, .int .i64 y1048.Goal, .slice ((g1053 0).1) y1048.Gave.length ((g1053 0).2)]⟩ 50 (0, 0))]] ∧ Sat Try.f47.ntmps [(0, .slice p400 x398.length c401), (1, .slice p405 x403.length c406), (5, .slice p1041 s1031.1.length c1042), (6, .int .i64 s1031.2), (7, .pointer (some ⟨b1058, 0, none⟩)), (8, .int .i64 s1189)] a) hw1197 (fun a ha => ⟨M1135.pick [0, 1] (by kernel_rfl), ha.sub (by kernel_rfl)⟩) ?_
              clear hm
              intro s1189 x1190 hm hout1191 a1192 w1193 ⟨M1194, hS1195⟩
              refine G_use hS1195 ?_
              refine G_seq ?_
              refine G_seq ?_
              refine G_region ?_
              refine W_run 2 [(0, .slice p400 x398.length c401), (1, .slice p405 x403.length c406), (5, .slice p1041 s1031.1.length c1042), (6, .int .i64 s1031.2), (7, .pointer (some ⟨b1058, 0, none⟩)), (8, .int .i64 s1189), (57, .int .i64 s1189), (58, .pointer (some ⟨b1058, 2, none⟩))] w1193 (by kernel_rfl) ?_
              refine W_val (.slice ((g1053 0).1) y1048.Gave.length ((g1053 0).2)) w1193 (by kernel_rfl) (E_load (e := 50) (fr := (0, 0)) _ _ false 1 b1058 2 [.int .i64 y1048.Guest, .int .i64 y1048.Goal, .slice ((g1053 0).1) y1048.Gave.length ((g1053 0).2)] (.slice ((g1053 0).1) y1048.Gave.length ((g1053 0).2)) rfl (by kernel_rfl) (by kernel_rfl) (by kernel_rfl) (M1194.blk 1 (b := b1058) (o := .cells ⟨[.int .i64 y1048.Guest, .int .i64 y1048.Goal, .slice ((g1053 0).1) y1048.Gave.length ((g1053 0).2)]⟩ 50 (0, 0)) (by kernel_rfl))) ?_
              refine W_run 2 [(0, .slice p400 x398.length c401), (1, .slice p405 x403.length c406), (5, .slice p1041 s1031.1.length c1042), (6, .int .i64 s1031.2), (7, .pointer (some ⟨b1058, 0, none⟩)), (8, .int .i64 s1189), (61, .bool (decide (s1189 < (y1048.Gave.length : Int))))] w1193 (by kernel_rfl) ?_
              refine W_nil ?_
              refine N_then ?_
              rcases gx_bif hm with ⟨hc1200, hm⟩ | ⟨hc1200, hm⟩
              · refine G_cond_t (b := (decide (s1189 < (y1048.Gave.length : Int)))) hc1200 (by kernel_rfl) ?_
                refine G_skip ?_
                refine N_then ?_
                refine G_seq ?_
                refine G_block ?_
                refine G_seq ?_
                obtain ⟨o1209, ho1210, hm1211⟩ := gx_bind hm
                refine G_meet (fun a w' => Mem [] w w' [sg1043, [(b1058, .cells ⟨[.int .i64 y1048.Guest, .int .i64 y1048.Goal, .slice ((g1053 0).1) y1048.Gave.length ((g1053 0).2)]⟩ 50 (0, 0))]] ∧ Sat Try.f47.ntmps [(0, .slice p400 x398.length c401), (1, .slice p405 x403.length c406), (5, .slice p1041 s1031.1.length c1042), (6, .int .i64 s1031.2), (7, .pointer (some ⟨b1058, 0, none⟩)), (8, .int .i64 s1189), (81, .bool o1209)] a) ?_ ?_
                · have hm := ho1210
                  refine G_region ?_
                  refine W_run 2 [(0, .slice p400 x398.length c401), (1, .slice p405 x403.length c406), (5, .slice p1041 s1031.1.length c1042), (6, .int .i64 s1031.2), (7, .pointer (some ⟨b1058, 0, none⟩)), (8, .int .i64 s1189), (64, .slice p400 x398.length c401), (65, .pointer (some ⟨b1058, 2, none⟩))] w1193 (by kernel_rfl) ?_
                  refine W_val (.slice ((g1053 0).1) y1048.Gave.length ((g1053 0).2)) w1193 (by kernel_rfl) (E_load (e := 50) (fr := (0, 0)) _ _ false 1 b1058 2 [.int .i64 y1048.Guest, .int .i64 y1048.Goal, .slice ((g1053 0).1) y1048.Gave.length ((g1053 0).2)] (.slice ((g1053 0).1) y1048.Gave.length ((g1053 0).2)) rfl (by kernel_rfl) (by kernel_rfl) (by kernel_rfl) (M1194.blk 1 (b := b1058) (o := .cells ⟨[.int .i64 y1048.Guest, .int .i64 y1048.Goal, .slice ((g1053 0).1) y1048.Gave.length ((g1053 0).2)]⟩ 50 (0, 0)) (by kernel_rfl))) ?_
                  refine W_run 1 [(0, .slice p400 x398.length c401), (1, .slice p405 x403.length c406), (5, .slice p1041 s1031.1.length c1042), (6, .int .i64 s1031.2), (7, .pointer (some ⟨b1058, 0, none⟩)), (8, .int .i64 s1189), (64, .slice p400 x398.length c401), (66, .slice ((g1053 0).1) y1048.Gave.length ((g1053 0).2)), (67, .int .i64 s1189)] w1193 (by kernel_rfl) ?_
                  obtain ⟨y1212, hy1212, hm⟩ := gx_bind hm
                  refine W_val (elemP ((g1053 0).1) (s1189.toNat * 1)) w1193 (by kernel_rfl) (E_index (E := encI) _ _ _ y1048.Gave.length ((g1053 0).2) .i64 s1189 1 (y := y1212) rfl (by kernel_rfl) (by kernel_rfl) (by kernel_rfl) ((hi1052.mem0 M1194).at_ hg1054 0 ⟨Int, encI, y1048.Gave, (g1053 0).1, (g1053 0).2⟩ (by kernel_rfl)) rfl hy1212) ?_
                  refine W_val (.int .i64 y1212) w1193 (by kernel_rfl) (E_loadE (E := encI) _ _ false 1 s1189 0 (s1189.toNat * 1) y1212 (.int .i64 y1212) rfl (by kernel_rfl) (by kernel_rfl) (by kernel_rfl) ((hi1052.mem0 M1194).at_ hg1054 0 ⟨Int, encI, y1048.Gave, (g1053 0).1, (g1053 0).2⟩ (by kernel_rfl)) hy1212 rfl) ?_
                  obtain ⟨y1213, hy1213, hm⟩ := gx_bind hm
                  refine W_val (elemP p400 (y1212.toNat * 1)) w1193 (by kernel_rfl) (E_index (E := encI) _ _ _ x398.length c401 .i64 y1212 1 (y := y1213) rfl (by kernel_rfl) (by kernel_rfl) (by kernel_rfl) (h402.mem0 M1194) rfl hy1213) ?_
                  refine W_val (.int .i64 y1213) w1193 (by kernel_rfl) (E_loadE (E := encI) _ _ false 1 y1212 0 (y1212.toNat * 1) y1213 (.int .i64 y1213) rfl (by kernel_rfl) (by kernel_rfl) (by kernel_rfl) (h402.mem0 M1194) hy1213 rfl) ?_
                  refine W_run 2 [(0, .slice p400 x398.length c401), (1, .slice p405 x403.length c406), (5, .slice p1041 s1031.1.length c1042), (6, .int .i64 s1031.2), (7, .pointer (some ⟨b1058, 0, none⟩)), (8, .int .i64 s1189), (73, .bool (y1213 != 0))] w1193 (by kernel_rfl) ?_
                  rcases gx_bif hm with ⟨hc1214, hm⟩ | ⟨hc1214, hm⟩
                  · refine W_known 73 true (by kernel_rfl) hc1214 ?_
                    refine W_run 8 [(0, .slice p400 x398.length c401), (1, .slice p405 x403.length c406), (5, .slice p1041 s1031.1.length c1042), (6, .int .i64 s1031.2), (7, .pointer (some ⟨b1058, 0, none⟩)), (8, .int .i64 s1189), (81, .bool true)] w1193 (by kernel_rfl) ?_
                    refine W_nil ?_
                    obtain rfl := Option.some.inj hm
                    exact N_meet fun a ha => ⟨M1194.pick [0, 1] (by kernel_rfl), ha.sub (by kernel_rfl)⟩
                  · refine W_known 73 false (by kernel_rfl) hc1214 ?_
                    refine W_run 2 [(0, .slice p400 x398.length c401), (1, .slice p405 x403.length c406), (5, .slice p1041 s1031.1.length c1042), (6, .int .i64 s1031.2), (7, .pointer (some ⟨b1058, 0, none⟩)), (8, .int .i64 s1189), (73, .bool false), (74, .slice p1041 s1031.1.length c1042), (75, .pointer (some ⟨b1058, 2, none⟩))] w1193 (by kernel_rfl) ?_
                    refine W_val (.slice ((g1053 0).1) y1048.Gave.length ((g1053 0).2)) w1193 (by kernel_rfl) (E_load (e := 50) (fr := (0, 0)) _ _ false 1 b1058 2 [.int .i64 y1048.Guest, .int .i64 y1048.Goal, .slice ((g1053 0).1) y1048.Gave.length ((g1053 0).2)] (.slice ((g1053 0).1) y1048.Gave.length ((g1053 0).2)) rfl (by kernel_rfl) (by kernel_rfl) (by kernel_rfl) (M1194.blk 1 (b := b1058) (o := .cells ⟨[.int .i64 y1048.Guest, .int .i64 y1048.Goal, .slice ((g1053 0).1) y1048.Gave.length ((g1053 0).2)]⟩ 50 (0, 0)) (by kernel_rfl))) ?_
                    refine W_run 1 [(0, .slice p400 x398.length c401), (1, .slice p405 x403.length c406), (5, .slice p1041 s1031.1.length c1042), (6, .int .i64 s1031.2), (7, .pointer (some ⟨b1058, 0, none⟩)), (8, .int .i64 s1189), (73, .bool false), (74, .slice p1041 s1031.1.length c1042), (76, .slice ((g1053 0).1) y1048.Gave.length ((g1053 0).2)), (77, .int .i64 s1189)] w1193 (by kernel_rfl) ?_
                    obtain ⟨y1215, hy1215, hm⟩ := gx_bind hm
                    refine W_val (elemP ((g1053 0).1) (s1189.toNat * 1)) w1193 (by kernel_rfl) (E_index (E := encI) _ _ _ y1048.Gave.length ((g1053 0).2) .i64 s1189 1 (y := y1215) rfl (by kernel_rfl) (by kernel_rfl) (by kernel_rfl) ((hi1052.mem0 M1194).at_ hg1054 0 ⟨Int, encI, y1048.Gave, (g1053 0).1, (g1053 0).2⟩ (by kernel_rfl)) rfl hy1215) ?_
                    refine W_val (.int .i64 y1215) w1193 (by kernel_rfl) (E_loadE (E := encI) _ _ false 1 s1189 0 (s1189.toNat * 1) y1215 (.int .i64 y1215) rfl (by kernel_rfl) (by kernel_rfl) (by kernel_rfl) ((hi1052.mem0 M1194).at_ hg1054 0 ⟨Int, encI, y1048.Gave, (g1053 0).1, (g1053 0).2⟩ (by kernel_rfl)) hy1215 rfl) ?_
                    obtain ⟨r1216, hr1216, hm⟩ := gx_bind hm
                    refine W_call 81 #[.slice p1041 s1031.1.length c1042, .int .i64 y1215] (by kernel_rfl) (by kernel_rfl) ?_
                    refine (c_s_l1Has w1193 s1031.1 p1041 c1042 (ho1044.rd M1194 0 (by kernel_rfl)) y1215 hr1216).mono ?_
                    rintro e_ w1217 ⟨rfl, K1218⟩
                    have M1219 := M1194.call0 K1218
                    refine ⟨_, rfl, ?_⟩
                    refine W_run 1 [(0, .slice p400 x398.length c401), (1, .slice p405 x403.length c406), (5, .slice p1041 s1031.1.length c1042), (6, .int .i64 s1031.2), (7, .pointer (some ⟨b1058, 0, none⟩)), (8, .int .i64 s1189), (81, .bool r1216)] w1217 (by kernel_rfl) ?_
                    refine W_nil ?_
                    obtain rfl := Option.some.inj hm
                    exact N_meet fun a ha => ⟨M1219.pick [0, 1] (by kernel_rfl), ha.sub (by kernel_rfl)⟩
                · intro a1222 w1220 ⟨M1221, hS1223⟩
                  refine N_use hS1223 ?_
                  have hm := hm1211
                  refine N_then ?_
                  rcases gx_bif hm with ⟨hc1224, hm⟩ | ⟨hc1224, hm⟩
                  · refine G_cond_t (b := o1209) hc1224 (by kernel_rfl) ?_
                    refine G_seq ?_
                    refine G_region ?_
                    refine W_run 1 [(4, .bool false)] w1220 (by kernel_rfl) ?_
                    refine W_nil ?_
                    refine N_then ?_
                    refine G_ret ?_
                    refine N_block_ret ?_
                    refine N_then_ret ?_
                    refine N_then_ret ?_
                    obtain rfl := Option.some.inj hm
                    obtain rfl := hout1191 _ rfl
                    have hm := hmo1198; simp only [Sum.elim_inr] at hm
                    refine N_block_ret ?_
                    refine N_meet_ret ?_
                    refine N_then_ret ?_
                    refine N_block_ret ?_
                    refine N_then_ret ?_
                    refine N_then_ret ?_
                    obtain rfl := Option.some.inj hm
                    obtain rfl := hout1033 _ rfl
                    have hm := hmo1040; simp only [Sum.elim_inr] at hm
                    refine N_block_ret ?_
                    refine N_meet_ret ?_
                    refine N_then_ret ?_
                    obtain rfl := Option.some.inj hm
                    refine N_ret [.bool false] (RVs_cons (RV_tmp (by kernel_rfl)) RVs_nil) ?_
                    exact ⟨rfl, M1221.pick [] (by kernel_rfl)⟩
                  · refine G_cond_f (b := o1209) hc1224 (by kernel_rfl) ?_
                    refine G_skip ?_
                    refine N_block ?_
                    refine N_then ?_
                    refine G_region ?_
                    refine W_run 3 [(0, .slice p400 x398.length c401), (1, .slice p405 x403.length c406), (5, .slice p1041 s1031.1.length c1042), (6, .int .i64 s1031.2), (7, .pointer (some ⟨b1058, 0, none⟩)), (8, .int .i64 (w64 (s1189 + 1)))] w1220 (by kernel_rfl) ?_
                    refine W_nil ?_
                    obtain rfl := Option.some.inj hm
                    exact N_loop fun a ha => ⟨_, rfl, M1221.pick [0, 1] (by kernel_rfl), ha.sub (by kernel_rfl)⟩
              · refine G_cond_f (b := (decide (s1189 < (y1048.Gave.length : Int)))) hc1200 (by kernel_rfl) ?_
                refine G_exit ?_
                refine N_then_exit ?_
                refine N_then_exit ?_
                refine N_block_eq ?_
                obtain rfl := Option.some.inj hm
                obtain rfl := hout1191 _ rfl
                exact N_meet fun a ha => ⟨_, rfl, M1194.pick [0, 1] (by kernel_rfl), ha.sub (by kernel_rfl)⟩
            · intro a1225 w1226 ⟨o1199, hout_, M1227, hS1228⟩
              refine N_use hS1228 ?_
              subst hout_
              have hm := hmo1198; simp only [Sum.elim_inl] at hm
              refine N_then ?_
              refine G_region ?_
              refine W_run 2 [(0, .slice p400 x398.length c401), (1, .slice p405 x403.length c406), (5, .slice p1041 s1031.1.length c1042), (6, .int .i64 s1031.2), (82, .slice p1041 s1031.1.length c1042), (83, .pointer (some ⟨b1058, 2, none⟩))] w1226 (by kernel_rfl) ?_
              refine W_val (.slice ((g1053 0).1) y1048.Gave.length ((g1053 0).2)) w1226 (by kernel_rfl) (E_load (e := 50) (fr := (0, 0)) _ _ false 1 b1058 2 [.int .i64 y1048.Guest, .int .i64 y1048.Goal, .slice ((g1053 0).1) y1048.Gave.length ((g1053 0).2)] (.slice ((g1053 0).1) y1048.Gave.length ((g1053 0).2)) rfl (by kernel_rfl) (by kernel_rfl) (by kernel_rfl) (M1227.blk 1 (b := b1058) (o := .cells ⟨[.int .i64 y1048.Guest, .int .i64 y1048.Goal, .slice ((g1053 0).1) y1048.Gave.length ((g1053 0).2)]⟩ 50 (0, 0)) (by kernel_rfl))) ?_
              obtain ⟨ap1229, hap1229, hm⟩ := gx_bind hm
              refine W_append (E := encI) _ _ _ 8 [.int .i64 0] 0 ((g1053 0).2) M1227 ho1044 (by kernel_rfl) (by kernel_rfl) (by kernel_rfl) rfl (by kernel_rfl) (by kernel_rfl) (by kernel_rfl) (by kernel_rfl) (by kernel_rfl) (by kernel_rfl) ((hi1052.mem0 M1227).at_ hg1054 0 ⟨Int, encI, y1048.Gave, (g1053 0).1, (g1053 0).2⟩ (by kernel_rfl)) hap1229 ?_
              intro p1230 c1231 sg1232 w1233 ho1234 M1235
              refine W_run 1 [(0, .slice p400 x398.length c401), (1, .slice p405 x403.length c406), (5, .slice p1230 ap1229.length c1231), (6, .int .i64 s1031.2)] w1233 (by kernel_rfl) ?_
              refine W_nil ?_
              refine N_block ?_
              refine N_then ?_
              refine G_region ?_
              refine W_run 3 [(0, .slice p400 x398.length c401), (1, .slice p405 x403.length c406), (5, .slice p1230 ap1229.length c1231), (6, .int .i64 (w64 (s1031.2 + 1)))] w1233 (by kernel_rfl) ?_
              refine W_nil ?_
              obtain rfl := Option.some.inj hm
              exact N_loop fun a ha => ⟨_, rfl, p1230, c1231, sg1232, ho1234, M1235.pick [0] (by kernel_rfl), ha.sub (by kernel_rfl)⟩
      · refine G_cond_f (b := (decide (s1031.2 < (x403.length : Int)))) hc1047 (by kernel_rfl) ?_
        refine G_exit ?_
        refine N_then_exit ?_
        refine N_then_exit ?_
        refine N_block_eq ?_
        obtain rfl := Option.some.inj hm
        obtain rfl := hout1033 _ rfl
        exact N_meet fun a ha => ⟨_, rfl, M1036.pick [] (by kernel_rfl), ha.sub (by kernel_rfl)⟩
    · intro a1237 w1238 ⟨o1046, hout_, M1239, hS1240⟩
      refine N_use hS1240 ?_
      subst hout_
      have hm := hmo1040; simp only [Sum.elim_inl] at hm
      refine N_then ?_
      refine G_seq ?_
      refine G_region ?_
      refine W_run 1 [(4, .bool true)] w1238 (by kernel_rfl) ?_
      refine W_nil ?_
      refine N_then ?_
      refine G_ret ?_
      obtain rfl := Option.some.inj hm
      refine N_ret [.bool true] (RVs_cons (RV_tmp (by kernel_rfl)) RVs_nil) ?_
      exact ⟨rfl, M1239.pick [] (by kernel_rfl)⟩
theorem c_s_AreBalloons (w : World) (x388 : List Int) (p390 : Option Addr) (c391 : Nat) (h392 : rdS encI w x388 p390 c391) (x393 : List Balloon) (p395 : Option Addr) (c396 : Nat) (h397 : rdD deepBalloon w x393 p395 c396) {r : Bool} (hm : M.s_AreBalloons x388 x393 = some r) :
    Calls Try.prog 14 #[.slice p390 x388.length c391, .slice p395 x393.length c396] w fun e w' => e = .returned (.bool r) ∧ Mem [] w w' [] := by
  unfold M.s_AreBalloons at hm
  refine C_enter Try.func14 rfl (by kernel_rfl) ?_
  have M0 := Mem.refl [] w
  refine G_seq ?_
  refine G_region ?_
  refine W_run 1 [(0, .slice p390 x388.length c391), (1, .slice p395 x393.length c396)] w (by kernel_rfl) ?_
  refine W_nil ?_
  refine N_then ?_
  refine G_seq ?_
  refine G_region ?_
  refine W_run 2 [(5, .slice p390 x388.length c391), (6, .slice p395 x393.length c396)] w (by kernel_rfl) ?_
  obtain ⟨r1241, hr1241, hm⟩ := gx_bind hm
  refine W_call 47 #[.slice p390 x388.length c391, .slice p395 x393.length c396] (by kernel_rfl) (by kernel_rfl) ?_
  refine (c_s_l18Good w x388 p390 c391 (h392.mem0 M0) x393 p395 c396 (h397.mem0 M0) hr1241).mono ?_
  rintro e_ w1242 ⟨rfl, K1243⟩
  have M1244 := M0.call0 K1243
  refine ⟨_, rfl, ?_⟩
  refine W_run 1 [(4, .bool r1241)] w1242 (by kernel_rfl) ?_
  refine W_nil ?_
  refine N_then ?_
  refine G_ret ?_
  obtain rfl := Option.some.inj hm
  refine N_ret [.bool r1241] (RVs_cons (RV_tmp (by kernel_rfl)) RVs_nil) ?_
  exact ⟨rfl, M1244.pick [] (by kernel_rfl)⟩
theorem c_i_inside (w : World) (x1283 : Int) (x1284 : Int) (x1285 : Int) {r : Bool} (hm : M.i_inside x1283 x1284 x1285 = some r) :
    Calls Try.prog 82 #[.int .i64 x1283, .int .i64 x1284, .int .i64 x1285] w fun e w' => e = .returned (.bool r) ∧ Mem [] w w' [] := by
  unfold M.i_inside at hm
  refine C_enter Try.func82 rfl (by kernel_rfl) ?_
  have M0 := Mem.refl [] w
  refine G_seq ?_
  refine G_region ?_
  refine W_run 1 [(0, .int .i64 x1283), (1, .int .i64 x1284), (2, .int .i64 x1285)] w (by kernel_rfl) ?_
  refine W_nil ?_
  refine N_then ?_
  refine G_seq ?_
  obtain ⟨o1287, ho1288, hm1289⟩ := gx_bind hm
  refine G_meet (fun a w' => Mem [] w w' [] ∧ Sat Try.f82.ntmps [(6, .bool o1287)] a) ?_ ?_
  · have hm := ho1288
    refine G_region ?_
    refine W_run 4 [(0, .int .i64 x1283), (2, .int .i64 x1285), (10, .bool (decide (x1283 ≥ x1284)))] w (by kernel_rfl) ?_
    rcases gx_bif hm with ⟨hc1290, hm⟩ | ⟨hc1290, hm⟩
    · refine W_known 10 true (by kernel_rfl) hc1290 ?_
      refine W_run 5 [(6, .bool (decide (x1283 ≤ x1285)))] w (by kernel_rfl) ?_
      refine W_nil ?_
      obtain rfl := Option.some.inj hm
      exact N_meet fun a ha => ⟨M0.pick [] (by kernel_rfl), ha.sub (by kernel_rfl)⟩
    · refine W_known 10 false (by kernel_rfl) hc1290 ?_
      refine W_run 5 [(6, .bool false)] w (by kernel_rfl) ?_
      refine W_nil ?_
      obtain rfl := Option.some.inj hm
      exact N_meet fun a ha => ⟨M0.pick [] (by kernel_rfl), ha.sub (by kernel_rfl)⟩
  · intro a1293 w1291 ⟨M1292, hS1294⟩
    refine N_use hS1294 ?_
    have hm := hm1289
    refine N_then ?_
    refine G_ret ?_
    obtain rfl := Option.some.inj hm
    refine N_ret [.bool o1287] (RVs_cons (RV_tmp (by kernel_rfl)) RVs_nil) ?_
    exact ⟨rfl, M1292.pick [] (by kernel_rfl)⟩
theorem c_i_AreOwners_1 (w : World) (x1312 : Int) {r : Bool} (hm : M.i_AreOwners_1 x1312 = some r) :
    Calls Try.prog 84 #[.int .i64 x1312] w fun e w' => e = .returned (.bool r) ∧ Mem [] w w' [] := by
  unfold M.i_AreOwners_1 at hm
  refine C_enter Try.func84 rfl (by kernel_rfl) ?_
  have M0 := Mem.refl [] w
  refine G_seq ?_
  refine G_region ?_
  refine W_run 1 [(0, .int .i64 x1312)] w (by kernel_rfl) ?_
  refine W_nil ?_
  refine N_then ?_
  refine G_seq ?_
  refine G_region ?_
  refine W_run 1 [(3, .int .i64 x1312)] w (by kernel_rfl) ?_
  obtain ⟨r1313, hr1313, hm⟩ := gx_bind hm
  refine W_call 82 #[.int .i64 x1312, .int .i64 0, .int .i64 4] (by kernel_rfl) (by kernel_rfl) ?_
  refine (c_i_inside w x1312 0 4 hr1313).mono ?_
  rintro e_ w1314 ⟨rfl, K1315⟩
  have M1316 := M0.call0 K1315
  refine ⟨_, rfl, ?_⟩
  refine W_run 2 [(2, .bool (!r1313))] w1314 (by kernel_rfl) ?_
  refine W_nil ?_
  refine N_then ?_
  refine G_ret ?_
  obtain rfl := Option.some.inj hm
  refine N_ret [.bool (!r1313)] (RVs_cons (RV_tmp (by kernel_rfl)) RVs_nil) ?_
  exact ⟨rfl, M1316.pick [] (by kernel_rfl)⟩
theorem c_slices_IndexFunc_91__i_AreOwners_1 (w : World) (x1305 : List Int) (p1307 : Option Addr) (c1308 : Nat) (h1309 : rdS encI w x1305 p1307 c1308) {r : Int} (hm : M.slices_IndexFunc_91__i_AreOwners_1 x1305 = some r) :
    Calls Try.prog 91 #[.slice p1307 x1305.length c1308, .func (.func 84) #[] #[]] w fun e w' => e = .returned (.int .i64 r) ∧ Mem [] w w' [] := by
  unfold M.slices_IndexFunc_91__i_AreOwners_1 at hm
  refine C_enter Try.func91 rfl (by kernel_rfl) ?_
  have M0 := Mem.refl [] w
  refine G_seq ?_
  refine G_region ?_
  refine W_run 1 [(0, .slice p1307 x1305.length c1308), (1, .func (.func 84) #[] #[])] w (by kernel_rfl) ?_
  refine W_nil ?_
  refine N_then ?_
  refine G_seq ?_
  refine G_seq ?_
  refine G_region ?_
  refine W_run 3 [(0, .slice p1307 x1305.length c1308), (1, .func (.func 84) #[] #[]), (7, .int .i64 (x1305.length : Int)), (8, .int .i64 0)] w (by kernel_rfl) ?_
  refine W_nil ?_
  refine N_then ?_
  obtain ⟨out1336, hw1337, hmo1338⟩ := gx_bind hm
  refine G_meet (fun a w' => ∃ (o1339 : Unit), out1336 = .inl o1339 ∧ Mem [] w w' [] ∧ Sat Try.f91.ntmps [] a) ?_ ?_
  · refine G_block ?_
    refine G_while (σ := Int) (ρ := (Unit) ⊕ (Int)) (fun s1329 a w' => Mem [] w w' [] ∧ Sat Try.f91.ntmps [(0, .slice p1307 x1305.length c1308), (1, .func (.func 84) #[] #[]), (7, .int .i64 (x1305.length : Int)), (8, .int .i64 s1329)] a) hw1337 (fun a ha => ⟨M0.pick [] (by kernel_rfl), ha.sub (by kernel_rfl)⟩) ?_
    clear hm
    intro s1329 x1330 hm hout1331 a1332 w1333 ⟨M1334, hS1335⟩
    refine G_use hS1335 ?_
    refine G_seq ?_
    refine G_region ?_
    refine W_run 1 [(0, .slice p1307 x1305.length c1308), (1, .func (.func 84) #[] #[]), (7, .int .i64 (x1305.length : Int)), (8, .int .i64 s1329), (9, .bool (decide (s1329 < (x1305.length : Int))))] w1333 (by kernel_rfl) ?_
    refine W_nil ?_
    refine N_then ?_
    refine G_seq ?_
    rcases gx_bif hm with ⟨hc1340, hm⟩ | ⟨hc1340, hm⟩
    · refine G_cond_t (b := (decide (s1329 < (x1305.length : Int)))) hc1340 (by kernel_rfl) ?_
      refine G_skip ?_
      refine N_then ?_
      refine G_seq ?_
      refine G_block ?_
      refine G_seq ?_
      refine G_region ?_
      refine W_run 2 [(0, .slice p1307 x1305.length c1308), (1, .func (.func 84) #[] #[]), (5, .int .i64 s1329), (7, .int .i64 (x1305.length : Int)), (8, .int .i64 s1329)] w1333 (by kernel_rfl) ?_
      refine W_nil ?_
      refine N_then ?_
      refine G_seq ?_
      refine G_region ?_
      refine W_run 3 [(0, .slice p1307 x1305.length c1308), (1, .func (.func 84) #[] #[]), (5, .int .i64 s1329), (7, .int .i64 (x1305.length : Int)), (8, .int .i64 s1329), (11, .func (.func 84) #[] #[]), (12, .slice p1307 x1305.length c1308), (13, .int .i64 s1329)] w1333 (by kernel_rfl) ?_
      obtain ⟨y1341, hy1341, hm⟩ := gx_bind hm
      refine W_val (elemP p1307 (s1329.toNat * 1)) w1333 (by kernel_rfl) (E_index (E := encI) _ _ _ x1305.length c1308 .i64 s1329 1 (y := y1341) rfl (by kernel_rfl) (by kernel_rfl) (by kernel_rfl) (h1309.mem0 M1334) rfl hy1341) ?_
      refine W_val (.int .i64 y1341) w1333 (by kernel_rfl) (E_loadE (E := encI) _ _ false 1 s1329 0 (s1329.toNat * 1) y1341 (.int .i64 y1341) rfl (by kernel_rfl) (by kernel_rfl) (by kernel_rfl) (h1309.mem0 M1334) hy1341 rfl) ?_
      obtain ⟨r1342, hr1342, hm⟩ := gx_bind hm
      refine W_call 84 #[.int .i64 y1341] (by kernel_rfl) (by kernel_rfl) ?_
      refine (c_i_AreOwners_1 w1333 y1341 hr1342).mono ?_
      rintro e_ w1343 ⟨rfl, K1344⟩
      have M1345 := M1334.call0 K1344
      refine ⟨_, rfl, ?_⟩
      refine W_nil ?_
      refine N_then ?_
      rcases gx_bif hm with ⟨hc1346, hm⟩ | ⟨hc1346, hm⟩
      · refine G_cond_t (b := r1342) hc1346 (by kernel_rfl) ?_
        refine G_seq ?_
        refine G_region ?_
        refine W_run 2 [(4, .int .i64 s1329)] w1343 (by kernel_rfl) ?_
        refine W_nil ?_
        refine N_then ?_
        refine G_ret ?_
        refine N_block_ret ?_
        refine N_then_ret ?_
        refine N_then_ret ?_
        obtain rfl := Option.some.inj hm
        obtain rfl := hout1331 _ rfl
        have hm := hmo1338; simp only [Sum.elim_inr] at hm
        refine N_block_ret ?_
        refine N_meet_ret ?_
        refine N_then_ret ?_
        obtain rfl := Option.some.inj hm
        refine N_ret [.int .i64 s1329] (RVs_cons (RV_tmp (by kernel_rfl)) RVs_nil) ?_
        exact ⟨rfl, M1345.pick [] (by kernel_rfl)⟩
      · refine G_cond_f (b := r1342) hc1346 (by kernel_rfl) ?_
        refine G_skip ?_
        refine N_block ?_
        refine N_then ?_
        refine G_region ?_
        refine W_run 2 [(0, .slice p1307 x1305.length c1308), (1, .func (.func 84) #[] #[]), (7, .int .i64 (x1305.length : Int)), (8, .int .i64 (w64 (s1329 + 1)))] w1343 (by kernel_rfl) ?_
        refine W_nil ?_
        obtain rfl := Option.some.inj hm
        exact N_loop fun a ha => ⟨_, rfl, M1345.pick [] (by kernel_rfl), ha.sub (by kernel_rfl)⟩
    · refine G_cond_f (b := (decide (s1329 < (x1305.length : Int)))) hc1340 (by kernel_rfl) ?_
      refine G_exit ?_
      refine N_then_exit ?_
      refine N_then_exit ?_
      refine N_block_eq ?_
      obtain rfl := Option.some.inj hm
      obtain rfl := hout1331 _ rfl
      exact N_meet fun a ha => ⟨_, rfl, M1334.pick [] (by kernel_rfl), ha.sub (by kernel_rfl)⟩
  · intro a1347 w1348 ⟨o1339, hout_, M1349, hS1350⟩
    refine N_use hS1350 ?_
    subst hout_
    have hm := hmo1338; simp only [Sum.elim_inl] at hm
    refine N_then ?_
    refine G_seq ?_
    refine G_region ?_
    refine W_run 1 [(4, .int .i64 (-1))] w1348 (by kernel_rfl) ?_
    refine W_nil ?_
    refine N_then ?_
    refine G_ret ?_
    obtain rfl := Option.some.inj hm
    refine N_ret [.int .i64 (-1)] (RVs_cons (RV_tmp (by kernel_rfl)) RVs_nil) ?_
    exact ⟨rfl, M1349.pick [] (by kernel_rfl)⟩
theorem c_slices_ContainsFunc_83__i_AreOwners_1 (w : World) (x1300 : List Int) (p1302 : Option Addr) (c1303 : Nat) (h1304 : rdS encI w x1300 p1302 c1303) {r : Bool} (hm : M.slices_ContainsFunc_83__i_AreOwners_1 x1300 = some r) :
    Calls Try.prog 83 #[.slice p1302 x1300.length c1303, .func (.func 84) #[] #[]] w fun e w' => e = .returned (.bool r) ∧ Mem [] w w' [] := by
  unfold M.slices_ContainsFunc_83__i_AreOwners_1 at hm
  refine C_enter Try.func83 rfl (by kernel_rfl) ?_
  have M0 := Mem.refl [] w
  refine G_seq ?_
  refine G_region ?_
  refine W_run 1 [(0, .slice p1302 x1300.length c1303), (1, .func (.func 84) #[] #[])] w (by kernel_rfl) ?_
  refine W_nil ?_
  refine N_then ?_
  refine G_seq ?_
  refine G_region ?_
  refine W_run 2 [(5, .slice p1302 x1300.length c1303), (6, .func (.func 84) #[] #[])] w (by kernel_rfl) ?_
  obtain ⟨r1351, hr1351, hm⟩ := gx_bind hm
  refine W_call 91 #[.slice p1302 x1300.length c1303, .func (.func 84) #[] #[]] (by kernel_rfl) (by kernel_rfl) ?_
  refine (c_slices_IndexFunc_91__i_AreOwners_1 w x1300 p1302 c1303 (h1304.mem0 M0) hr1351).mono ?_
  rintro e_ w1352 ⟨rfl, K1353⟩
  have M1354 := M0.call0 K1353
  refine ⟨_, rfl, ?_⟩
  refine W_run 2 [(4, .bool (decide (r1351 ≥ 0)))] w1352 (by kernel_rfl) ?_
  refine W_nil ?_
  refine N_then ?_
  refine G_ret ?_
  obtain rfl := Option.some.inj hm
  refine N_ret [.bool (decide (r1351 ≥ 0))] (RVs_cons (RV_tmp (by kernel_rfl)) RVs_nil) ?_
  exact ⟨rfl, M1354.pick [] (by kernel_rfl)⟩
theorem c_i_AreOwners (w : World) (x1278 : List Int) (p1280 : Option Addr) (c1281 : Nat) (h1282 : rdS encI w x1278 p1280 c1281) {r : Bool} (hm : M.i_AreOwners x1278 = some r) :
    Calls Try.prog 49 #[.slice p1280 x1278.length c1281] w fun e w' => e = .returned (.bool r) ∧ Mem [] w w' [] := by
  unfold M.i_AreOwners at hm
  refine C_enter Try.func49 rfl (by kernel_rfl) ?_
  have M0 := Mem.refl [] w
  refine G_seq ?_
  refine G_region ?_
  refine W_run 1 [(0, .slice p1280 x1278.length c1281)] w (by kernel_rfl) ?_
  refine W_nil ?_
  refine N_then ?_
  refine G_seq ?_
  obtain ⟨o1359, ho1360, hm1361⟩ := gx_bind hm
  refine G_meet (fun a w' => Mem [] w w' [] ∧ Sat Try.f49.ntmps [(2, .bool o1359)] a) ?_ ?_
  · have hm := ho1360
    refine G_region ?_
    refine W_run 2 [(0, .slice p1280 x1278.length c1281), (4, .int .i64 (x1278.length : Int))] w (by kernel_rfl) ?_
    obtain ⟨r1362, hr1362, hm⟩ := gx_bind hm
    refine W_call 82 #[.int .i64 (x1278.length : Int), .int .i64 1, .int .i64 16] (by kernel_rfl) (by kernel_rfl) ?_
    refine (c_i_inside w (x1278.length : Int) 1 16 hr1362).mono ?_
    rintro e_ w1363 ⟨rfl, K1364⟩
    have M1365 := M0.call0 K1364
    refine ⟨_, rfl, ?_⟩
    refine W_run 1 [(0, .slice p1280 x1278.length c1281), (6, .bool r1362)] w1363 (by kernel_rfl) ?_
    rcases gx_bif hm with ⟨hc1366, hm⟩ | ⟨hc1366, hm⟩
    · refine W_known 6 true (by kernel_rfl) hc1366 ?_
      refine W_run 1 [(6, .bool true), (7, .slice p1280 x1278.length c1281)] w1363 (by kernel_rfl) ?_
      obtain ⟨r1367, hr1367, hm⟩ := gx_bind hm
      refine W_call 83 #[.slice p1280 x1278.length c1281, .func (.func 84) #[] #[]] (by kernel_rfl) (by kernel_rfl) ?_
      refine (c_slices_ContainsFunc_83__i_AreOwners_1 w1363 x1278 p1280 c1281 (h1282.mem0 M1365) hr1367).mono ?_
      rintro e_ w1368 ⟨rfl, K1369⟩
      have M1370 := M1365.call0 K1369
      refine ⟨_, rfl, ?_⟩
      refine W_run 3 [(2, .bool (!r1367))] w1368 (by kernel_rfl) ?_
      refine W_nil ?_
      obtain rfl := Option.some.inj hm
      exact N_meet fun a ha => ⟨M1370.pick [] (by kernel_rfl), ha.sub (by kernel_rfl)⟩
    · refine W_known 6 false (by kernel_rfl) hc1366 ?_
      refine W_run 5 [(2, .bool false)] w1363 (by kernel_rfl) ?_
      refine W_nil ?_
      obtain rfl := Option.some.inj hm
      exact N_meet fun a ha => ⟨M1365.pick [] (by kernel_rfl), ha.sub (by kernel_rfl)⟩
  · intro a1373 w1371 ⟨M1372, hS1374⟩
    refine N_use hS1374 ?_
    have hm := hm1361
    refine N_then ?_
    refine G_ret ?_
    obtain rfl := Option.some.inj hm
    refine N_ret [.bool o1359] (RVs_cons (RV_tmp (by kernel_rfl)) RVs_nil) ?_
    exact ⟨rfl, M1372.pick [] (by kernel_rfl)⟩
theorem c_i_isGuest (w : World) (x1403 : Int) {r : Bool} (hm : M.i_isGuest x1403 = some r) :
    Calls Try.prog 50 #[.int .i64 x1403] w fun e w' => e = .returned (.bool r) ∧ Mem [] w w' [] := by
  unfold M.i_isGuest at hm
  refine C_enter Try.func50 rfl (by kernel_rfl) ?_
  have M0 := Mem.refl [] w
  refine G_seq ?_
  refine G_region ?_
  refine W_run 1 [(0, .int .i64 x1403)] w (by kernel_rfl) ?_
  refine W_nil ?_
  refine N_then ?_
  refine G_seq ?_
  refine G_region ?_
  refine W_run 1 [(3, .int .i64 x1403)] w (by kernel_rfl) ?_
  obtain ⟨r1404, hr1404, hm⟩ := gx_bind hm
  refine W_call 82 #[.int .i64 x1403, .int .i64 1, .int .i64 4] (by kernel_rfl) (by kernel_rfl) ?_
  refine (c_i_inside w x1403 1 4 hr1404).mono ?_
  rintro e_ w1405 ⟨rfl, K1406⟩
  have M1407 := M0.call0 K1406
  refine ⟨_, rfl, ?_⟩
  refine W_run 1 [(2, .bool r1404)] w1405 (by kernel_rfl) ?_
  refine W_nil ?_
  refine N_then ?_
  refine G_ret ?_
  obtain rfl := Option.some.inj hm
  refine N_ret [.bool r1404] (RVs_cons (RV_tmp (by kernel_rfl)) RVs_nil) ?_
  exact ⟨rfl, M1407.pick [] (by kernel_rfl)⟩
theorem c_i_isGoal (w : World) (x1415 : Int) {r : Bool} (hm : M.i_isGoal x1415 = some r) :
    Calls Try.prog 51 #[.int .i64 x1415] w fun e w' => e = .returned (.bool r) ∧ Mem [] w w' [] := by
  unfold M.i_isGoal at hm
  refine C_enter Try.func51 rfl (by kernel_rfl) ?_
  have M0 := Mem.refl [] w
  refine G_seq ?_
  refine G_region ?_
  refine W_run 1 [(0, .int .i64 x1415)] w (by kernel_rfl) ?_
  refine W_nil ?_
  refine N_then ?_
  refine G_seq ?_
  refine G_region ?_
  refine W_run 1 [(3, .int .i64 x1415)] w (by kernel_rfl) ?_
  obtain ⟨r1416, hr1416, hm⟩ := gx_bind hm
  refine W_call 82 #[.int .i64 x1415, .int .i64 0, .int .i64 16] (by kernel_rfl) (by kernel_rfl) ?_
  refine (c_i_inside w x1415 0 16 hr1416).mono ?_
  rintro e_ w1417 ⟨rfl, K1418⟩
  have M1419 := M0.call0 K1418
  refine ⟨_, rfl, ?_⟩
  refine W_run 1 [(2, .bool r1416)] w1417 (by kernel_rfl) ?_
  refine W_nil ?_
  refine N_then ?_
  refine G_ret ?_
  obtain rfl := Option.some.inj hm
  refine N_ret [.bool r1416] (RVs_cons (RV_tmp (by kernel_rfl)) RVs_nil) ?_
  exact ⟨rfl, M1419.pick [] (by kernel_rfl)⟩
theorem c_i_ascending (w : World) (x1427 : List Int) (p1429 : Option Addr) (c1430 : Nat) (h1431 : rdS encI w x1427 p1429 c1430) (x1432 : Int) (x1433 : Int) {r : Bool} (hm : M.i_ascending x1427 x1432 x1433 = some r) :
    Calls Try.prog 52 #[.slice p1429 x1427.length c1430, .int .i64 x1432, .int .i64 x1433] w fun e w' => e = .returned (.bool r) ∧ Mem [] w w' [] := by
  unfold M.i_ascending at hm
  refine C_enter Try.func52 rfl (by kernel_rfl) ?_
  have M0 := Mem.refl [] w
  refine G_seq ?_
  refine G_region ?_
  refine W_run 1 [(0, .slice p1429 x1427.length c1430), (1, .int .i64 x1432), (2, .int .i64 x1433)] w (by kernel_rfl) ?_
  refine W_nil ?_
  refine N_then ?_
  refine G_seq ?_
  refine G_seq ?_
  refine G_region ?_
  refine W_run 3 [(0, .slice p1429 x1427.length c1430), (1, .int .i64 x1432), (2, .int .i64 x1433), (9, .slice p1429 x1427.length c1430), (10, .int .i64 (x1427.length : Int)), (11, .int .i64 0)] w (by kernel_rfl) ?_
  refine W_nil ?_
  refine N_then ?_
  obtain ⟨out1489, hw1490, hmo1491⟩ := gx_bind hm
  refine G_meet (fun a w' => ∃ (o1492 : Unit), out1489 = .inl o1492 ∧ Mem [] w w' [] ∧ Sat Try.f52.ntmps [] a) ?_ ?_
  · refine G_block ?_
    refine G_while (σ := Int) (ρ := (Unit) ⊕ (Bool)) (fun s1482 a w' => Mem [] w w' [] ∧ Sat Try.f52.ntmps [(0, .slice p1429 x1427.length c1430), (1, .int .i64 x1432), (2, .int .i64 x1433), (9, .slice p1429 x1427.length c1430), (10, .int .i64 (x1427.length : Int)), (11, .int .i64 s1482)] a) hw1490 (fun a ha => ⟨M0.pick [] (by kernel_rfl), ha.sub (by kernel_rfl)⟩) ?_
    clear hm
    intro s1482 x1483 hm hout1484 a1485 w1486 ⟨M1487, hS1488⟩
    refine G_use hS1488 ?_
    refine G_seq ?_
    refine G_region ?_
    refine W_run 1 [(0, .slice p1429 x1427.length c1430), (1, .int .i64 x1432), (2, .int .i64 x1433), (9, .slice p1429 x1427.length c1430), (10, .int .i64 (x1427.length : Int)), (11, .int .i64 s1482), (12, .bool (decide (s1482 < (x1427.length : Int))))] w1486 (by kernel_rfl) ?_
    refine W_nil ?_
    refine N_then ?_
    refine G_seq ?_
    rcases gx_bif hm with ⟨hc1493, hm⟩ | ⟨hc1493, hm⟩
    · refine G_cond_t (b := (decide (s1482 < (x1427.length : Int)))) hc1493 (by kernel_rfl) ?_
      refine G_skip ?_
      refine N_then ?_
      refine G_seq ?_
      refine G_block ?_
      refine G_seq ?_
      refine G_region ?_
      refine W_run 1 [(0, .slice p1429 x1427.length c1430), (1, .int .i64 x1432), (2, .int .i64 x1433), (9, .slice p1429 x1427.length c1430), (10, .int .i64 (x1427.length : Int)), (11, .int .i64 s1482), (13, .int .i64 s1482)] w1486 (by kernel_rfl) ?_
      obtain ⟨y1494, hy1494, hm⟩ := gx_bind hm
      refine W_val (elemP p1429 (s1482.toNat * 1)) w1486 (by kernel_rfl) (E_index (E := encI) _ _ _ x1427.length c1430 .i64 s1482 1 (y := y1494) rfl (by kernel_rfl) (by kernel_rfl) (by kernel_rfl) (h1431.mem0 M1487) rfl hy1494) ?_
      refine W_val (.int .i64 y1494) w1486 (by kernel_rfl) (E_loadE (E := encI) _ _ false 1 s1482 0 (s1482.toNat * 1) y1494 (.int .i64 y1494) rfl (by kernel_rfl) (by kernel_rfl) (by kernel_rfl) (h1431.mem0 M1487) hy1494 rfl) ?_
      refine W_run 2 [(0, .slice p1429 x1427.length c1430), (1, .int .i64 x1432), (2, .int .i64 x1433), (7, .int .i64 s1482), (8, .int .i64 y1494), (9, .slice p1429 x1427.length c1430), (10, .int .i64 (x1427.length : Int)), (11, .int .i64 s1482)] w1486 (by kernel_rfl) ?_
      refine W_nil ?_
      refine N_then ?_
      refine G_seq ?_
      obtain ⟨o1502, ho1503, hm1504⟩ := gx_bind hm
      refine G_meet (fun a w' => Mem [] w w' [] ∧ Sat Try.f52.ntmps [(0, .slice p1429 x1427.length c1430), (1, .int .i64 x1432), (2, .int .i64 x1433), (9, .slice p1429 x1427.length c1430), (10, .int .i64 (x1427.length : Int)), (11, .int .i64 s1482), (33, .bool o1502)] a) ?_ ?_
      · have hm := ho1503
        refine G_region ?_
        refine W_run 3 [(0, .slice p1429 x1427.length c1430), (1, .int .i64 x1432), (2, .int .i64 x1433), (7, .int .i64 s1482), (8, .int .i64 y1494), (9, .slice p1429 x1427.length c1430), (10, .int .i64 (x1427.length : Int)), (11, .int .i64 s1482), (16, .int .i64 y1494), (17, .int .i64 x1432), (18, .int .i64 x1433)] w1486 (by kernel_rfl) ?_
        obtain ⟨r1505, hr1505, hm⟩ := gx_bind hm
        refine W_call 82 #[.int .i64 y1494, .int .i64 x1432, .int .i64 x1433] (by kernel_rfl) (by kernel_rfl) ?_
        refine (c_i_inside w1486 y1494 x1432 x1433 hr1505).mono ?_
        rintro e_ w1506 ⟨rfl, K1507⟩
        have M1508 := M1487.call0 K1507
        refine ⟨_, rfl, ?_⟩
        refine W_run 2 [(0, .slice p1429 x1427.length c1430), (1, .int .i64 x1432), (2, .int .i64 x1433), (7, .int .i64 s1482), (8, .int .i64 y1494), (9, .slice p1429 x1427.length c1430), (10, .int .i64 (x1427.length : Int)), (11, .int .i64 s1482), (21, .bool (!r1505))] w1506 (by kernel_rfl) ?_
        rcases gx_bif hm with ⟨hc1509, hm⟩ | ⟨hc1509, hm⟩
        · refine W_known 21 true (by kernel_rfl) hc1509 ?_
          refine W_run 12 [(0, .slice p1429 x1427.length c1430), (1, .int .i64 x1432), (2, .int .i64 x1433), (9, .slice p1429 x1427.length c1430), (10, .int .i64 (x1427.length : Int)), (11, .int .i64 s1482), (33, .bool true)] w1506 (by kernel_rfl) ?_
          refine W_nil ?_
          obtain rfl := Option.some.inj hm
          exact N_meet fun a ha => ⟨M1508.pick [] (by kernel_rfl), ha.sub (by kernel_rfl)⟩
        · refine W_known 21 false (by kernel_rfl) hc1509 ?_
          refine W_run 3 [(0, .slice p1429 x1427.length c1430), (1, .int .i64 x1432), (2, .int .i64 x1433), (7, .int .i64 s1482), (8, .int .i64 y1494), (9, .slice p1429 x1427.length c1430), (10, .int .i64 (x1427.length : Int)), (11, .int .i64 s1482), (21, .bool false), (24, .bool (decide (s1482 > 0)))] w1506 (by kernel_rfl) ?_
          rcases gx_bif hm with ⟨hc1510, hm⟩ | ⟨hc1510, hm⟩
          · refine W_known 24 true (by kernel_rfl) hc1510 ?_
            refine W_run 3 [(0, .slice p1429 x1427.length c1430), (1, .int .i64 x1432), (2, .int .i64 x1433), (8, .int .i64 y1494), (9, .slice p1429 x1427.length c1430), (10, .int .i64 (x1427.length : Int)), (11, .int .i64 s1482), (21, .bool false), (24, .bool true), (25, .slice p1429 x1427.length c1430), (27, .int .i64 (w64 (s1482 - 1)))] w1506 (by kernel_rfl) ?_
            obtain ⟨y1511, hy1511, hm⟩ := gx_bind hm
            refine W_val (elemP p1429 ((w64 (s1482 - 1)).toNat * 1)) w1506 (by kernel_rfl) (E_index (E := encI) _ _ _ x1427.length c1430 .i64 (w64 (s1482 - 1)) 1 (y := y1511) rfl (by kernel_rfl) (by kernel_rfl) (by kernel_rfl) (h1431.mem0 M1508) rfl hy1511) ?_
            refine W_val (.int .i64 y1511) w1506 (by kernel_rfl) (E_loadE (E := encI) _ _ false 1 (w64 (s1482 - 1)) 0 ((w64 (s1482 - 1)).toNat * 1) y1511 (.int .i64 y1511) rfl (by kernel_rfl) (by kernel_rfl) (by kernel_rfl) (h1431.mem0 M1508) hy1511 rfl) ?_
            refine W_run 4 [(0, .slice p1429 x1427.length c1430), (1, .int .i64 x1432), (2, .int .i64 x1433), (9, .slice p1429 x1427.length c1430), (10, .int .i64 (x1427.length : Int)), (11, .int .i64 s1482), (33, .bool (decide (y1511 ≥ y1494)))] w1506 (by kernel_rfl) ?_
            refine W_nil ?_
            obtain rfl := Option.some.inj hm
            exact N_meet fun a ha => ⟨M1508.pick [] (by kernel_rfl), ha.sub (by kernel_rfl)⟩
          · refine W_known 24 false (by kernel_rfl) hc1510 ?_
            refine W_run 9 [(0, .slice p1429 x1427.length c1430), (1, .int .i64 x1432), (2, .int .i64 x1433), (9, .slice p1429 x1427.length c1430), (10, .int .i64 (x1427.length : Int)), (11, .int .i64 s1482), (33, .bool false)] w1506 (by kernel_rfl) ?_
            refine W_nil ?_
            obtain rfl := Option.some.inj hm
            exact N_meet fun a ha => ⟨M1508.pick [] (by kernel_rfl), ha.sub (by kernel_rfl)⟩
      · intro a1514 w1512 ⟨M1513, hS1515⟩
        refine N_use hS1515 ?_
        have hm := hm1504
        refine N_then ?_
        rcases gx_bif hm with ⟨hc1516, hm⟩ | ⟨hc1516, hm⟩
        · refine G_cond_t (b := o1502) hc1516 (by kernel_rfl) ?_
          refine G_seq ?_
          refine G_region ?_
          refine W_run 1 [(6, .bool false)] w1512 (by kernel_rfl) ?_
          refine W_nil ?_
          refine N_then ?_
          refine G_ret ?_
          refine N_block_ret ?_
          refine N_then_ret ?_
          refine N_then_ret ?_
          obtain rfl := Option.some.inj hm
          obtain rfl := hout1484 _ rfl
          have hm := hmo1491; simp only [Sum.elim_inr] at hm
          refine N_block_ret ?_
          refine N_meet_ret ?_
          refine N_then_ret ?_
          obtain rfl := Option.some.inj hm
          refine N_ret [.bool false] (RVs_cons (RV_tmp (by kernel_rfl)) RVs_nil) ?_
          exact ⟨rfl, M1513.pick [] (by kernel_rfl)⟩
        · refine G_cond_f (b := o1502) hc1516 (by kernel_rfl) ?_
          refine G_skip ?_
          refine N_block ?_
          refine N_then ?_
          refine G_region ?_
          refine W_run 2 [(0, .slice p1429 x1427.length c1430), (1, .int .i64 x1432), (2, .int .i64 x1433), (9, .slice p1429 x1427.length c1430), (10, .int .i64 (x1427.length : Int)), (11, .int .i64 (w64 (s1482 + 1)))] w1512 (by kernel_rfl) ?_
          refine W_nil ?_
          obtain rfl := Option.some.inj hm
          exact N_loop fun a ha => ⟨_, rfl, M1513.pick [] (by kernel_rfl), ha.sub (by kernel_rfl)⟩
    · refine G_cond_f (b := (decide (s1482 < (x1427.length : Int)))) hc1493 (by kernel_rfl) ?_
      refine G_exit ?_
      refine N_then_exit ?_
      refine N_then_exit ?_
      refine N_block_eq ?_
      obtain rfl := Option.some.inj hm
      obtain rfl := hout1484 _ rfl
      exact N_meet fun a ha => ⟨_, rfl, M1487.pick [] (by kernel_rfl), ha.sub (by kernel_rfl)⟩
  · intro a1517 w1518 ⟨o1492, hout_, M1519, hS1520⟩
    refine N_use hS1520 ?_
    subst hout_
    have hm := hmo1491; simp only [Sum.elim_inl] at hm
    refine N_then ?_
    refine G_seq ?_
    refine G_region ?_
    refine W_run 1 [(6, .bool true)] w1518 (by kernel_rfl) ?_
    refine W_nil ?_
    refine N_then ?_
    refine G_ret ?_
    obtain rfl := Option.some.inj hm
    refine N_ret [.bool true] (RVs_cons (RV_tmp (by kernel_rfl)) RVs_nil) ?_
    exact ⟨rfl, M1519.pick [] (by kernel_rfl)⟩
theorem c_slices_Index_63 (w : World) (x1585 : List Int) (p1587 : Option Addr) (c1588 : Nat) (h1589 : rdS encI w x1585 p1587 c1588) (x1590 : Int) {r : Int} (hm : M.slices_Index_63 x1585 x1590 = some r) :
    Calls Try.prog 63 #[.slice p1587 x1585.length c1588, .int .i64 x1590] w fun e w' => e = .returned (.int .i64 r) ∧ Mem [] w w' [] := by
  unfold M.slices_Index_63 at hm
  refine C_enter Try.func63 rfl (by kernel_rfl) ?_
  have M0 := Mem.refl [] w
  refine G_seq ?_
  refine G_region ?_
  refine W_run 1 [(0, .slice p1587 x1585.length c1588), (1, .int .i64 x1590)] w (by kernel_rfl) ?_
  refine W_nil ?_
  refine N_then ?_
  refine G_seq ?_
  refine G_seq ?_
  refine G_region ?_
  refine W_run 3 [(0, .slice p1587 x1585.length c1588), (1, .int .i64 x1590), (7, .int .i64 (x1585.length : Int)), (8, .int .i64 0)] w (by kernel_rfl) ?_
  refine W_nil ?_
  refine N_then ?_
  obtain ⟨out1604, hw1605, hmo1606⟩ := gx_bind hm
  refine G_meet (fun a w' => ∃ (o1607 : Unit), out1604 = .inl o1607 ∧ Mem [] w w' [] ∧ Sat Try.f63.ntmps [] a) ?_ ?_
  · refine G_block ?_
    refine G_while (σ := Int) (ρ := (Unit) ⊕ (Int)) (fun s1597 a w' => Mem [] w w' [] ∧ Sat Try.f63.ntmps [(0, .slice p1587 x1585.length c1588), (1, .int .i64 x1590), (7, .int .i64 (x1585.length : Int)), (8, .int .i64 s1597)] a) hw1605 (fun a ha => ⟨M0.pick [] (by kernel_rfl), ha.sub (by kernel_rfl)⟩) ?_
    clear hm
    intro s1597 x1598 hm hout1599 a1600 w1601 ⟨M1602, hS1603⟩
    refine G_use hS1603 ?_
    refine G_seq ?_
    refine G_region ?_
    refine W_run 1 [(0, .slice p1587 x1585.length c1588), (1, .int .i64 x1590), (7, .int .i64 (x1585.length : Int)), (8, .int .i64 s1597), (9, .bool (decide (s1597 < (x1585.length : Int))))] w1601 (by kernel_rfl) ?_
    refine W_nil ?_
    refine N_then ?_
    refine G_seq ?_
    rcases gx_bif hm with ⟨hc1608, hm⟩ | ⟨hc1608, hm⟩
    · refine G_cond_t (b := (decide (s1597 < (x1585.length : Int)))) hc1608 (by kernel_rfl) ?_
      refine G_skip ?_
      refine N_then ?_
      refine G_seq ?_
      refine G_block ?_
      refine G_seq ?_
      refine G_region ?_
      refine W_run 2 [(0, .slice p1587 x1585.length c1588), (1, .int .i64 x1590), (5, .int .i64 s1597), (7, .int .i64 (x1585.length : Int)), (8, .int .i64 s1597)] w1601 (by kernel_rfl) ?_
      refine W_nil ?_
      refine N_then ?_
      refine G_seq ?_
      refine G_region ?_
      refine W_run 3 [(0, .slice p1587 x1585.length c1588), (1, .int .i64 x1590), (5, .int .i64 s1597), (7, .int .i64 (x1585.length : Int)), (8, .int .i64 s1597), (11, .int .i64 x1590), (12, .slice p1587 x1585.length c1588), (13, .int .i64 s1597)] w1601 (by kernel_rfl) ?_
      obtain ⟨y1609, hy1609, hm⟩ := gx_bind hm
      refine W_val (elemP p1587 (s1597.toNat * 1)) w1601 (by kernel_rfl) (E_index (E := encI) _ _ _ x1585.length c1588 .i64 s1597 1 (y := y1609) rfl (by kernel_rfl) (by kernel_rfl) (by kernel_rfl) (h1589.mem0 M1602) rfl hy1609) ?_
      refine W_val (.int .i64 y1609) w1601 (by kernel_rfl) (E_loadE (E := encI) _ _ false 1 s1597 0 (s1597.toNat * 1) y1609 (.int .i64 y1609) rfl (by kernel_rfl) (by kernel_rfl) (by kernel_rfl) (h1589.mem0 M1602) hy1609 rfl) ?_
      refine W_run 1 [(0, .slice p1587 x1585.length c1588), (1, .int .i64 x1590), (5, .int .i64 s1597), (7, .int .i64 (x1585.length : Int)), (8, .int .i64 s1597), (16, .bool (x1590 == y1609))] w1601 (by kernel_rfl) ?_
      refine W_nil ?_
      refine N_then ?_
      rcases gx_bif hm with ⟨hc1610, hm⟩ | ⟨hc1610, hm⟩
      · refine G_cond_t (b := (x1590 == y1609)) hc1610 (by kernel_rfl) ?_
        refine G_seq ?_
        refine G_region ?_
        refine W_run 2 [(4, .int .i64 s1597)] w1601 (by kernel_rfl) ?_
        refine W_nil ?_
        refine N_then ?_
        refine G_ret ?_
        refine N_block_ret ?_
        refine N_then_ret ?_
        refine N_then_ret ?_
        obtain rfl := Option.some.inj hm
        obtain rfl := hout1599 _ rfl
        have hm := hmo1606; simp only [Sum.elim_inr] at hm
        refine N_block_ret ?_
        refine N_meet_ret ?_
        refine N_then_ret ?_
        obtain rfl := Option.some.inj hm
        refine N_ret [.int .i64 s1597] (RVs_cons (RV_tmp (by kernel_rfl)) RVs_nil) ?_
        exact ⟨rfl, M1602.pick [] (by kernel_rfl)⟩
      · refine G_cond_f (b := (x1590 == y1609)) hc1610 (by kernel_rfl) ?_
        refine G_skip ?_
        refine N_block ?_
        refine N_then ?_
        refine G_region ?_
        refine W_run 2 [(0, .slice p1587 x1585.length c1588), (1, .int .i64 x1590), (7, .int .i64 (x1585.length : Int)), (8, .int .i64 (w64 (s1597 + 1)))] w1601 (by kernel_rfl) ?_
        refine W_nil ?_
        obtain rfl := Option.some.inj hm
        exact N_loop fun a ha => ⟨_, rfl, M1602.pick [] (by kernel_rfl), ha.sub (by kernel_rfl)⟩
    · refine G_cond_f (b := (decide (s1597 < (x1585.length : Int)))) hc1608 (by kernel_rfl) ?_
      refine G_exit ?_
      refine N_then_exit ?_
      refine N_then_exit ?_
      refine N_block_eq ?_
      obtain rfl := Option.some.inj hm
      obtain rfl := hout1599 _ rfl
      exact N_meet fun a ha => ⟨_, rfl, M1602.pick [] (by kernel_rfl), ha.sub (by kernel_rfl)⟩
  · intro a1611 w1612 ⟨o1607, hout_, M1613, hS1614⟩
    refine N_use hS1614 ?_
    subst hout_
    have hm := hmo1606; simp only [Sum.elim_inl] at hm
    refine N_then ?_
    refine G_seq ?_
    refine G_region ?_
    refine W_run 1 [(4, .int .i64 (-1))] w1612 (by kernel_rfl) ?_
    refine W_nil ?_
    refine N_then ?_
    refine G_ret ?_
    obtain rfl := Option.some.inj hm
    refine N_ret [.int .i64 (-1)] (RVs_cons (RV_tmp (by kernel_rfl)) RVs_nil) ?_
    exact ⟨rfl, M1613.pick [] (by kernel_rfl)⟩
theorem c_slices_Contains_53 (w : World) (x1579 : List Int) (p1581 : Option Addr) (c1582 : Nat) (h1583 : rdS encI w x1579 p1581 c1582) (x1584 : Int) {r : Bool} (hm : M.slices_Contains_53 x1579 x1584 = some r) :
    Calls Try.prog 53 #[.slice p1581 x1579.length c1582, .int .i64 x1584] w fun e w' => e = .returned (.bool r) ∧ Mem [] w w' [] := by
  unfold M.slices_Contains_53 at hm
  refine C_enter Try.func53 rfl (by kernel_rfl) ?_
  have M0 := Mem.refl [] w
  refine G_seq ?_
  refine G_region ?_
  refine W_run 1 [(0, .slice p1581 x1579.length c1582), (1, .int .i64 x1584)] w (by kernel_rfl) ?_
  refine W_nil ?_
  refine N_then ?_
  refine G_seq ?_
  refine G_region ?_
  refine W_run 2 [(5, .slice p1581 x1579.length c1582), (6, .int .i64 x1584)] w (by kernel_rfl) ?_
  obtain ⟨r1615, hr1615, hm⟩ := gx_bind hm
  refine W_call 63 #[.slice p1581 x1579.length c1582, .int .i64 x1584] (by kernel_rfl) (by kernel_rfl) ?_
  refine (c_slices_Index_63 w x1579 p1581 c1582 (h1583.mem0 M0) x1584 hr1615).mono ?_
  rintro e_ w1616 ⟨rfl, K1617⟩
  have M1618 := M0.call0 K1617
  refine ⟨_, rfl, ?_⟩
  refine W_run 2 [(4, .bool (decide (r1615 ≥ 0)))] w1616 (by kernel_rfl) ?_
  refine W_nil ?_
  refine N_then ?_
  refine G_ret ?_
  obtain rfl := Option.some.inj hm
  refine N_ret [.bool (decide (r1615 ≥ 0))] (RVs_cons (RV_tmp (by kernel_rfl)) RVs_nil) ?_
  exact ⟨rfl, M1618.pick [] (by kernel_rfl)⟩
theorem c_i_AreBalloons (w : World) (x1268 : List Int) (p1270 : Option Addr) (c1271 : Nat) (h1272 : rdS encI w x1268 p1270 c1271) (x1273 : List Balloon) (p1275 : Option Addr) (c1276 : Nat) (h1277 : rdD deepBalloon w x1273 p1275 c1276) {r : Bool} (hm : M.i_AreBalloons x1268 x1273 = some r) :
    Calls Try.prog 17 #[.slice p1270 x1268.length c1271, .slice p1275 x1273.length c1276] w fun e w' => e = .returned (.bool r) ∧ Mem [] w w' [] := by
  unfold M.i_AreBalloons at hm
  refine C_enter Try.func17 rfl (by kernel_rfl) ?_
  have M0 := Mem.refl [] w
  refine G_seq ?_
  refine G_region ?_
  refine W_run 1 [(0, .slice p1270 x1268.length c1271), (1, .slice p1275 x1273.length c1276)] w (by kernel_rfl) ?_
  refine W_nil ?_
  refine N_then ?_
  refine G_seq ?_
  refine G_seq ?_
  refine G_region ?_
  refine W_run 1 [(0, .slice p1270 x1268.length c1271), (1, .slice p1275 x1273.length c1276), (10, .slice p1270 x1268.length c1271)] w (by kernel_rfl) ?_
  obtain ⟨r1375, hr1375, hm⟩ := gx_bind hm
  refine W_call 49 #[.slice p1270 x1268.length c1271] (by kernel_rfl) (by kernel_rfl) ?_
  refine (c_i_AreOwners w x1268 p1270 c1271 (h1272.mem0 M0) hr1375).mono ?_
  rintro e_ w1376 ⟨rfl, K1377⟩
  have M1378 := M0.call0 K1377
  refine ⟨_, rfl, ?_⟩
  refine W_run 1 [(0, .slice p1270 x1268.length c1271), (1, .slice p1275 x1273.length c1276), (12, .bool (!r1375))] w1376 (by kernel_rfl) ?_
  refine W_nil ?_
  refine N_then ?_
  rcases gx_bif hm with ⟨hc1379, hm⟩ | ⟨hc1379, hm⟩
  · refine G_cond_t (b := (!r1375)) hc1379 (by kernel_rfl) ?_
    refine G_seq ?_
    refine G_region ?_
    refine W_run 1 [(4, .bool false)] w1376 (by kernel_rfl) ?_
    refine W_nil ?_
    refine N_then ?_
    refine G_ret ?_
    refine N_then_ret ?_
    obtain rfl := Option.some.inj hm
    refine N_ret [.bool false] (RVs_cons (RV_tmp (by kernel_rfl)) RVs_nil) ?_
    exact ⟨rfl, M1378.pick [] (by kernel_rfl)⟩
  · refine G_cond_f (b := (!r1375)) hc1379 (by kernel_rfl) ?_
    refine G_skip ?_
    refine N_then ?_
    refine G_seq ?_
    refine G_region ?_
    refine W_lit (E := encI) ([] : List Int) 0 [] 3 M1378 (by kernel_rfl) (by kernel_rfl) (by kernel_rfl) (by kernel_rfl) (by kernel_rfl) ?_
    intro p1380 c1381 sg1382 w1383 ho1384 M1385
    refine W_run 1 [(0, .slice p1270 x1268.length c1271), (1, .slice p1275 x1273.length c1276), (5, .slice p1380 ([] : List Int).length c1381)] w1383 (by kernel_rfl) ?_
    refine W_nil ?_
    refine N_then ?_
    refine G_seq ?_
    refine G_seq ?_
    refine G_region ?_
    refine W_run 3 [(0, .slice p1270 x1268.length c1271), (1, .slice p1275 x1273.length c1276), (5, .slice p1380 ([] : List Int).length c1381), (14, .slice p1275 x1273.length c1276), (15, .int .i64 (x1273.length : Int)), (16, .int .i64 0)] w1383 (by kernel_rfl) ?_
    refine W_nil ?_
    refine N_then ?_
    obtain ⟨out1993, hw1994, hmo1995⟩ := gx_bind hm
    refine G_meet (fun a w' => ∃ (o2001 : Unit), out1993 = .inl o2001 ∧ Mem [] w w' [] ∧ Sat Try.f17.ntmps [] a) ?_ ?_
    · refine G_block ?_
      refine G_while (σ := List Int × Int) (ρ := (Unit) ⊕ (Bool)) (fun s1986 a w' => ∃ (p1996 : Option Addr), ∃ (c1997 : Nat), ∃ (sg1998 : Seg), ownS encI s1986.1 p1996 c1997 sg1998 ∧ Mem [] w w' [sg1998] ∧ Sat Try.f17.ntmps [(0, .slice p1270 x1268.length c1271), (1, .slice p1275 x1273.length c1276), (5, .slice p1996 s1986.1.length c1997), (14, .slice p1275 x1273.length c1276), (15, .int .i64 (x1273.length : Int)), (16, .int .i64 s1986.2)] a) hw1994 (fun a ha => ⟨p1380, c1381, sg1382, ho1384, M1385.pick [0] (by kernel_rfl), ha.sub (by kernel_rfl)⟩) ?_
      clear hm
      intro s1986 x1987 hm hout1988 a1989 w1990 ⟨p1996, c1997, sg1998, ho1999, M1991, hS1992⟩
      refine G_use hS1992 ?_
      refine G_seq ?_
      refine G_region ?_
      refine W_run 1 [(0, .slice p1270 x1268.length c1271), (1, .slice p1275 x1273.length c1276), (5, .slice p1996 s1986.1.length c1997), (14, .slice p1275 x1273.length c1276), (15, .int .i64 (x1273.length : Int)), (16, .int .i64 s1986.2), (17, .bool (decide (s1986.2 < (x1273.length : Int))))] w1990 (by kernel_rfl) ?_
      refine W_nil ?_
      refine N_then ?_
      refine G_seq ?_
      rcases gx_bif hm with ⟨hc2002, hm⟩ | ⟨hc2002, hm⟩
      · refine G_cond_t (b := (decide (s1986.2 < (x1273.length : Int)))) hc2002 (by kernel_rfl) ?_
        refine G_skip ?_
        refine N_then ?_
        refine G_seq ?_
        refine G_block ?_
        refine G_seq ?_
        refine G_region ?_
        refine W_run 1 [(0, .slice p1270 x1268.length c1271), (1, .slice p1275 x1273.length c1276), (5, .slice p1996 s1986.1.length c1997), (14, .slice p1275 x1273.length c1276), (15, .int .i64 (x1273.length : Int)), (16, .int .i64 s1986.2), (18, .int .i64 s1986.2)] w1990 (by kernel_rfl) ?_
        obtain ⟨y2003, hy2003, hm⟩ := gx_bind hm
        obtain ⟨zs2004, hz2005, hr2006, hi2007⟩ := id h1277
        obtain ⟨g2008, hg2009⟩ := gxIdx_fst hz2005 hy2003
        refine W_val (elemP p1275 (s1986.2.toNat * 3)) w1990 (by kernel_rfl) (E_index (E := deepBalloon.E) _ _ _ x1273.length c1276 .i64 s1986.2 3 (y := (y2003, g2008)) rfl (by kernel_rfl) (by kernel_rfl) (by kernel_rfl) (hr2006.mem0 M1991) (len_fst hz2005) hg2009) ?_
        refine W_val (.agg #[.int .i64 y2003.Guest, .int .i64 y2003.Goal, .slice ((g2008 0).1) y2003.Gave.length ((g2008 0).2)]) w1990 (by kernel_rfl) (E_loadE (E := deepBalloon.E) _ _ true 3 s1986.2 0 (s1986.2.toNat * 3) (y2003, g2008) (.agg #[.int .i64 y2003.Guest, .int .i64 y2003.Goal, .slice ((g2008 0).1) y2003.Gave.length ((g2008 0).2)]) rfl (by kernel_rfl) (by kernel_rfl) (by kernel_rfl) (hr2006.mem0 M1991) hg2009 rfl) ?_
        refine W_new (fun b => .pointer (some ⟨b, 0, none⟩)) (.cells ⟨[.int .i64 0, .int .i64 0, .slice none 0 0]⟩ 50 (0, 0)) M1991 rfl (by kernel_rfl) (by kernel_rfl) ?_
        intro b2013 w2014 M2015
        refine W_run 1 [(0, .slice p1270 x1268.length c1271), (1, .slice p1275 x1273.length c1276), (5, .slice p1996 s1986.1.length c1997), (6, .int .i64 s1986.2), (7, .pointer (some ⟨b2013, 0, none⟩)), (14, .slice p1275 x1273.length c1276), (15, .int .i64 (x1273.length : Int)), (16, .int .i64 s1986.2), (20, .agg #[.int .i64 y2003.Guest, .int .i64 y2003.Goal, .slice ((g2008 0).1) y2003.Gave.length ((g2008 0).2)])] w2014 (by kernel_rfl) ?_
        refine W_store _ _ _ true 3 b2013 0 [.int .i64 0, .int .i64 0, .slice none 0 0] 50 (.agg #[.int .i64 y2003.Guest, .int .i64 y2003.Goal, .slice ((g2008 0).1) y2003.Gave.length ((g2008 0).2)]) 1 [.int .i64 y2003.Guest, .int .i64 y2003.Goal, .slice ((g2008 0).1) y2003.Gave.length ((g2008 0).2)] M2015 (by kernel_rfl) rfl (by kernel_rfl) (by kernel_rfl) (by kernel_rfl) (by kernel_rfl) (by kernel_rfl) (by kernel_rfl) (by kernel_rfl) (by kernel_rfl) ?_
        intro w2016 M2017
        refine W_nil ?_
        refine N_then ?_
        refine G_seq ?_
        refine G_seq ?_
        obtain ⟨o2048, ho2049, hm2050⟩ := gx_bind hm
        refine G_meet (fun a w' => Mem [] w w' [sg1998, [(b2013, .cells ⟨[.int .i64 y2003.Guest, .int .i64 y2003.Goal, .slice ((g2008 0).1) y2003.Gave.length ((g2008 0).2)]⟩ 50 (0, 0))]] ∧ Sat Try.f17.ntmps [(0, .slice p1270 x1268.length c1271), (1, .slice p1275 x1273.length c1276), (5, .slice p1996 s1986.1.length c1997), (7, .pointer (some ⟨b2013, 0, none⟩)), (14, .slice p1275 x1273.length c1276), (15, .int .i64 (x1273.length : Int)), (16, .int .i64 s1986.2), (54, .bool o2048)] a) ?_ ?_
        · have hm := ho2049
          refine G_quiet (by kernel_rfl) (by kernel_rfl) M2017 ?_
          refine Z_runs [.pointer (some ⟨b2013, 0, none⟩)] [(0, .slice p1270 x1268.length c1271), (1, .slice p1275 x1273.length c1276), (5, .slice p1996 s1986.1.length c1997), (6, .int .i64 s1986.2), (7, .pointer (some ⟨b2013, 0, none⟩)), (14, .slice p1275 x1273.length c1276), (15, .int .i64 (x1273.length : Int)), (16, .int .i64 s1986.2), (21, .pointer (some ⟨b2013, 0, none⟩))] (fun w_ => by kernel_rfl) (by kernel_rfl) ?_
          refine Z_val (.int .i64 y2003.Guest) (by kernel_rfl) (fun w_ M_ => (E_load (e := 50) (fr := (0, 0)) _ _ false 1 b2013 0 [.int .i64 y2003.Guest, .int .i64 y2003.Goal, .slice ((g2008 0).1) y2003.Gave.length ((g2008 0).2)] (.int .i64 y2003.Guest) rfl (by kernel_rfl) (by kernel_rfl) (by kernel_rfl) (M_.blk 1 (b := b2013) (o := .cells ⟨[.int .i64 y2003.Guest, .int .i64 y2003.Goal, .slice ((g2008 0).1) y2003.Gave.length ((g2008 0).2)]⟩ 50 (0, 0)) (by kernel_rfl)))) ?_
          obtain ⟨r2051, hr2051, hm⟩ := gx_bind hm
          refine Z_call 50 #[.int .i64 y2003.Guest] (.bool r2051) (by kernel_rfl) (fun w_ => by kernel_rfl) (fun w_ M_ => (c_i_isGuest w_ y2003.Guest hr2051).mono fun e w2_ h_ => ⟨h_.1, M_.call0 h_.2⟩) ?_
          refine Z_runs [.bool (!r2051), .bool (!r2051)] [(0, .slice p1270 x1268.length c1271), (1, .slice p1275 x1273.length c1276), (5, .slice p1996 s1986.1.length c1997), (6, .int .i64 s1986.2), (7, .pointer (some ⟨b2013, 0, none⟩)), (14, .slice p1275 x1273.length c1276), (15, .int .i64 (x1273.length : Int)), (16, .int .i64 s1986.2), (25, .bool (!r2051))] (fun w_ => by kernel_rfl) (by kernel_rfl) ?_
          rcases gx_bif hm with ⟨hc2055, hm⟩ | ⟨hc2055, hm⟩
          · refine Z_known 25 true (by kernel_rfl) hc2055 ?_
            refine Z_runs [undef, undef, undef, undef, .bool true, .bool true, undef, undef, undef, undef, undef, undef, undef, .bool true, .bool true, undef, undef, undef, undef, undef, undef, undef, undef, undef, undef, undef, undef, undef, .bool true] [(0, .slice p1270 x1268.length c1271), (1, .slice p1275 x1273.length c1276), (5, .slice p1996 s1986.1.length c1997), (7, .pointer (some ⟨b2013, 0, none⟩)), (14, .slice p1275 x1273.length c1276), (15, .int .i64 (x1273.length : Int)), (16, .int .i64 s1986.2), (54, .bool true)] (fun w_ => by kernel_rfl) (by kernel_rfl) ?_
            refine Z_end fun w2056 M2057 => ?_
            obtain rfl := Option.some.inj hm
            exact N_meet fun a ha => ⟨M2057.pick [0, 1] (by kernel_rfl), ha.sub (by kernel_rfl)⟩
          · refine Z_known 25 false (by kernel_rfl) hc2055 ?_
            refine Z_runs [.pointer (some ⟨b2013, 1, none⟩)] [(0, .slice p1270 x1268.length c1271), (1, .slice p1275 x1273.length c1276), (5, .slice p1996 s1986.1.length c1997), (6, .int .i64 s1986.2), (7, .pointer (some ⟨b2013, 0, none⟩)), (14, .slice p1275 x1273.length c1276), (15, .int .i64 (x1273.length : Int)), (16, .int .i64 s1986.2), (25, .bool false), (26, .pointer (some ⟨b2013, 1, none⟩))] (fun w_ => by kernel_rfl) (by kernel_rfl) ?_
            refine Z_val (.int .i64 y2003.Goal) (by kernel_rfl) (fun w_ M_ => (E_load (e := 50) (fr := (0, 0)) _ _ false 1 b2013 1 [.int .i64 y2003.Guest, .int .i64 y2003.Goal, .slice ((g2008 0).1) y2003.Gave.length ((g2008 0).2)] (.int .i64 y2003.Goal) rfl (by kernel_rfl) (by kernel_rfl) (by kernel_rfl) (M_.blk 1 (b := b2013) (o := .cells ⟨[.int .i64 y2003.Guest, .int .i64 y2003.Goal, .slice ((g2008 0).1) y2003.Gave.length ((g2008 0).2)]⟩ 50 (0, 0)) (by kernel_rfl)))) ?_
            obtain ⟨r2058, hr2058, hm⟩ := gx_bind hm
            refine Z_call 51 #[.int .i64 y2003.Goal] (.bool r2058) (by kernel_rfl) (fun w_ => by kernel_rfl) (fun w_ M_ => (c_i_isGoal w_ y2003.Goal hr2058).mono fun e w2_ h_ => ⟨h_.1, M_.call0 h_.2⟩) ?_
            refine Z_runs [.bool (!r2058), .bool (!r2058), .bool (!r2058)] [(0, .slice p1270 x1268.length c1271), (1, .slice p1275 x1273.length c1276), (5, .slice p1996 s1986.1.length c1997), (6, .int .i64 s1986.2), (7, .pointer (some ⟨b2013, 0, none⟩)), (14, .slice p1275 x1273.length c1276), (15, .int .i64 (x1273.length : Int)), (16, .int .i64 s1986.2), (31, .bool (!r2058))] (fun w_ => by kernel_rfl) (by kernel_rfl) ?_
            rcases gx_bif hm with ⟨hc2062, hm⟩ | ⟨hc2062, hm⟩
            · refine Z_known 31 true (by kernel_rfl) hc2062 ?_
              refine Z_runs [undef, undef, undef, undef, undef, undef, undef, .bool true, .bool true, undef, undef, undef, undef, undef, undef, undef, undef, undef, undef, undef, undef, undef, .bool true] [(0, .slice p1270 x1268.length c1271), (1, .slice p1275 x1273.length c1276), (5, .slice p1996 s1986.1.length c1997), (7, .pointer (some ⟨b2013, 0, none⟩)), (14, .slice p1275 x1273.length c1276), (15, .int .i64 (x1273.length : Int)), (16, .int .i64 s1986.2), (54, .bool true)] (fun w_ => by kernel_rfl) (by kernel_rfl) ?_
              refine Z_end fun w2063 M2064 => ?_
              obtain rfl := Option.some.inj hm
              exact N_meet fun a ha => ⟨M2064.pick [0, 1] (by kernel_rfl), ha.sub (by kernel_rfl)⟩
            · refine Z_known 31 false (by kernel_rfl) hc2062 ?_
              refine Z_runs [.pointer (some ⟨b2013, 2, none⟩)] [(0, .slice p1270 x1268.length c1271), (1, .slice p1275 x1273.length c1276), (5, .slice p1996 s1986.1.length c1997), (6, .int .i64 s1986.2), (7, .pointer (some ⟨b2013, 0, none⟩)), (14, .slice p1275 x1273.length c1276), (15, .int .i64 (x1273.length : Int)), (16, .int .i64 s1986.2), (31, .bool false), (32, .pointer (some ⟨b2013, 2, none⟩))] (fun w_ => by kernel_rfl) (by kernel_rfl) ?_
              refine Z_val (.slice ((g2008 0).1) y2003.Gave.length ((g2008 0).2)) (by kernel_rfl) (fun w_ M_ => (E_load (e := 50) (fr := (0, 0)) _ _ false 1 b2013 2 [.int .i64 y2003.Guest, .int .i64 y2003.Goal, .slice ((g2008 0).1) y2003.Gave.length ((g2008 0).2)] (.slice ((g2008 0).1) y2003.Gave.length ((g2008 0).2)) rfl (by kernel_rfl) (by kernel_rfl) (by kernel_rfl) (M_.blk 1 (b := b2013) (o := .cells ⟨[.int .i64 y2003.Guest, .int .i64 y2003.Goal, .slice ((g2008 0).1) y2003.Gave.length ((g2008 0).2)]⟩ 50 (0, 0)) (by kernel_rfl)))) ?_
              refine Z_runs [.slice p1270 x1268.length c1271, .int .i64 (x1268.length : Int), .int .i64 (w64 ((x1268.length : Int) - 1))] [(0, .slice p1270 x1268.length c1271), (1, .slice p1275 x1273.length c1276), (5, .slice p1996 s1986.1.length c1997), (6, .int .i64 s1986.2), (7, .pointer (some ⟨b2013, 0, none⟩)), (14, .slice p1275 x1273.length c1276), (15, .int .i64 (x1273.length : Int)), (16, .int .i64 s1986.2), (31, .bool false), (33, .slice ((g2008 0).1) y2003.Gave.length ((g2008 0).2)), (36, .int .i64 (w64 ((x1268.length : Int) - 1)))] (fun w_ => by kernel_rfl) (by kernel_rfl) ?_
              obtain ⟨r2065, hr2065, hm⟩ := gx_bind hm
              refine Z_call 52 #[.slice ((g2008 0).1) y2003.Gave.length ((g2008 0).2), .int .i64 0, .int .i64 (w64 ((x1268.length : Int) - 1))] (.bool r2065) (by kernel_rfl) (fun w_ => by kernel_rfl) (fun w_ M_ => (c_i_ascending w_ y2003.Gave ((g2008 0).1) ((g2008 0).2) ((hi2007.mem0 M_).at_ hg2009 0 ⟨Int, encI, y2003.Gave, (g2008 0).1, (g2008 0).2⟩ (by kernel_rfl)) 0 (w64 ((x1268.length : Int) - 1)) hr2065).mono fun e w2_ h_ => ⟨h_.1, M_.call0 h_.2⟩) ?_
              refine Z_runs [.bool (!r2065), .bool (!r2065), .bool (!r2065)] [(0, .slice p1270 x1268.length c1271), (1, .slice p1275 x1273.length c1276), (5, .slice p1996 s1986.1.length c1997), (6, .int .i64 s1986.2), (7, .pointer (some ⟨b2013, 0, none⟩)), (14, .slice p1275 x1273.length c1276), (15, .int .i64 (x1273.length : Int)), (16, .int .i64 s1986.2), (40, .bool (!r2065))] (fun w_ => by kernel_rfl) (by kernel_rfl) ?_
              rcases gx_bif hm with ⟨hc2069, hm⟩ | ⟨hc2069, hm⟩
              · refine Z_known 40 true (by kernel_rfl) hc2069 ?_
                refine Z_runs [undef, undef, undef, undef, undef, undef, undef, undef, undef, undef, undef, undef, undef, .bool true] [(0, .slice p1270 x1268.length c1271), (1, .slice p1275 x1273.length c1276), (5, .slice p1996 s1986.1.length c1997), (7, .pointer (some ⟨b2013, 0, none⟩)), (14, .slice p1275 x1273.length c1276), (15, .int .i64 (x1273.length : Int)), (16, .int .i64 s1986.2), (54, .bool true)] (fun w_ => by kernel_rfl) (by kernel_rfl) ?_
                refine Z_end fun w2070 M2071 => ?_
                obtain rfl := Option.some.inj hm
                exact N_meet fun a ha => ⟨M2071.pick [0, 1] (by kernel_rfl), ha.sub (by kernel_rfl)⟩
              · refine Z_known 40 false (by kernel_rfl) hc2069 ?_
                refine Z_runs [.int .i64 s1986.2, .bool (decide (s1986.2 > 0)), .bool (decide (s1986.2 > 0))] [(0, .slice p1270 x1268.length c1271), (1, .slice p1275 x1273.length c1276), (5, .slice p1996 s1986.1.length c1997), (6, .int .i64 s1986.2), (7, .pointer (some ⟨b2013, 0, none⟩)), (14, .slice p1275 x1273.length c1276), (15, .int .i64 (x1273.length : Int)), (16, .int .i64 s1986.2), (40, .bool false), (43, .bool (decide (s1986.2 > 0)))] (fun w_ => by kernel_rfl) (by kernel_rfl) ?_
                rcases gx_bif hm with ⟨hc2072, hm⟩ | ⟨hc2072, hm⟩
                · refine Z_known 43 true (by kernel_rfl) hc2072 ?_
                  refine Z_runs [.slice p1275 x1273.length c1276, .int .i64 s1986.2, .int .i64 (w64 (s1986.2 - 1))] [(0, .slice p1270 x1268.length c1271), (1, .slice p1275 x1273.length c1276), (5, .slice p1996 s1986.1.length c1997), (7, .pointer (some ⟨b2013, 0, none⟩)), (14, .slice p1275 x1273.length c1276), (15, .int .i64 (x1273.length : Int)), (16, .int .i64 s1986.2), (40, .bool false), (43, .bool true), (44, .slice p1275 x1273.length c1276), (46, .int .i64 (w64 (s1986.2 - 1)))] (fun w_ => by kernel_rfl) (by kernel_rfl) ?_
                  obtain ⟨y2073, hy2073, hm⟩ := gx_bind hm
                  obtain ⟨g2074, hg2075⟩ := gxIdx_fst hz2005 hy2073
                  refine Z_val (elemP p1275 ((w64 (s1986.2 - 1)).toNat * 3)) (by kernel_rfl) (fun w_ M_ => (E_index (E := deepBalloon.E) _ _ _ x1273.length c1276 .i64 (w64 (s1986.2 - 1)) 3 (y := (y2073, g2074)) rfl (by kernel_rfl) (by kernel_rfl) (by kernel_rfl) (hr2006.mem0 M_) (len_fst hz2005) hg2075)) ?_
                  refine Z_val (elemP p1275 ((w64 (s1986.2 - 1)).toNat * 3 + 0)) (by kernel_rfl) (fun w_ M_ => (E_fieldE (E := deepBalloon.E) _ _ 0 ((w64 (s1986.2 - 1)).toNat * 3) 0 rfl (by kernel_rfl) (by kernel_rfl) (hr2006.mem0 M_) hg2075)) ?_
                  refine Z_val (.int .i64 y2073.Guest) (by kernel_rfl) (fun w_ M_ => (E_loadE (E := deepBalloon.E) _ _ false 1 (w64 (s1986.2 - 1)) 0 ((w64 (s1986.2 - 1)).toNat * 3 + 0) (y2073, g2074) (.int .i64 y2073.Guest) rfl (by kernel_rfl) (by kernel_rfl) (by kernel_rfl) (hr2006.mem0 M_) hg2075 rfl)) ?_
                  refine Z_runs [.pointer (some ⟨b2013, 0, none⟩)] [(0, .slice p1270 x1268.length c1271), (1, .slice p1275 x1273.length c1276), (5, .slice p1996 s1986.1.length c1997), (7, .pointer (some ⟨b2013, 0, none⟩)), (14, .slice p1275 x1273.length c1276), (15, .int .i64 (x1273.length : Int)), (16, .int .i64 s1986.2), (40, .bool false), (43, .bool true), (49, .int .i64 y2073.Guest), (50, .pointer (some ⟨b2013, 0, none⟩))] (fun w_ => by kernel_rfl) (by kernel_rfl) ?_
                  refine Z_val (.int .i64 y2003.Guest) (by kernel_rfl) (fun w_ M_ => (E_load (e := 50) (fr := (0, 0)) _ _ false 1 b2013 0 [.int .i64 y2003.Guest, .int .i64 y2003.Goal, .slice ((g2008 0).1) y2003.Gave.length ((g2008 0).2)] (.int .i64 y2003.Guest) rfl (by kernel_rfl) (by kernel_rfl) (by kernel_rfl) (M_.blk 1 (b := b2013) (o := .cells ⟨[.int .i64 y2003.Guest, .int .i64 y2003.Goal, .slice ((g2008 0).1) y2003.Gave.length ((g2008 0).2)]⟩ 50 (0, 0)) (by kernel_rfl)))) ?_
                  refine Z_runs [.bool (decide (y2073.Guest ≥ y2003.Guest)), .bool (decide (y2073.Guest ≥ y2003.Guest)), .bool (decide (y2073.Guest ≥ y2003.Guest))] [(0, .slice p1270 x1268.length c1271), (1, .slice p1275 x1273.length c1276), (5, .slice p1996 s1986.1.length c1997), (7, .pointer (some ⟨b2013, 0, none⟩)), (14, .slice p1275 x1273.length c1276), (15, .int .i64 (x1273.length : Int)), (16, .int .i64 s1986.2), (54, .bool (decide (y2073.Guest ≥ y2003.Guest)))] (fun w_ => by kernel_rfl) (by kernel_rfl) ?_
                  refine Z_end fun w2077 M2078 => ?_
                  obtain rfl := Option.some.inj hm
                  exact N_meet fun a ha => ⟨M2078.pick [0, 1] (by kernel_rfl), ha.sub (by kernel_rfl)⟩
                · refine Z_known 43 false (by kernel_rfl) hc2072 ?_
                  refine Z_runs [undef, undef, undef, undef, undef, undef, undef, undef, undef, .bool false, .bool false] [(0, .slice p1270 x1268.length c1271), (1, .slice p1275 x1273.length c1276), (5, .slice p1996 s1986.1.length c1997), (7, .pointer (some ⟨b2013, 0, none⟩)), (14, .slice p1275 x1273.length c1276), (15, .int .i64 (x1273.length : Int)), (16, .int .i64 s1986.2), (54, .bool false)] (fun w_ => by kernel_rfl) (by kernel_rfl) ?_
                  refine Z_end fun w2079 M2080 => ?_
                  obtain rfl := Option.some.inj hm
                  exact N_meet fun a ha => ⟨M2080.pick [0, 1] (by kernel_rfl), ha.sub (by kernel_rfl)⟩
        · intro a2083 w2081 ⟨M2082, hS2084⟩
          refine N_use hS2084 ?_
          have hm := hm2050
          refine N_then ?_
          rcases gx_bif hm with ⟨hc2085, hm⟩ | ⟨hc2085, hm⟩
          · refine G_cond_t (b := o2048) hc2085 (by kernel_rfl) ?_
            refine G_seq ?_
            refine G_region ?_
            refine W_run 1 [(4, .bool false)] w2081 (by kernel_rfl) ?_
            refine W_nil ?_
            refine N_then ?_
            refine G_ret ?_
            refine N_then_ret ?_
            refine N_block_ret ?_
            refine N_then_ret ?_
            refine N_then_ret ?_
            obtain rfl := Option.some.inj hm
            obtain rfl := hout1988 _ rfl
            have hm := hmo1995; simp only [Sum.elim_inr] at hm
            refine N_block_ret ?_
            refine N_meet_ret ?_
            refine N_then_ret ?_
            obtain rfl := Option.some.inj hm
            refine N_ret [.bool false] (RVs_cons (RV_tmp (by kernel_rfl)) RVs_nil) ?_
            exact ⟨rfl, M2082.pick [] (by kernel_rfl)⟩
          · refine G_cond_f (b := o2048) hc2085 (by kernel_rfl) ?_
            refine G_skip ?_
            refine N_then ?_
            refine G_seq ?_
            refine G_region ?_
            refine W_run 1 [(0, .slice p1270 x1268.length c1271), (1, .slice p1275 x1273.length c1276), (5, .slice p1996 s1986.1.length c1997), (14, .slice p1275 x1273.length c1276), (15, .int .i64 (x1273.length : Int)), (16, .int .i64 s1986.2), (55, .pointer (some ⟨b2013, 2, none⟩))] w2081 (by kernel_rfl) ?_
            refine W_val (.slice ((g2008 0).1) y2003.Gave.length ((g2008 0).2)) w2081 (by kernel_rfl) (E_load (e := 50) (fr := (0, 0)) _ _ false 1 b2013 2 [.int .i64 y2003.Guest, .int .i64 y2003.Goal, .slice ((g2008 0).1) y2003.Gave.length ((g2008 0).2)] (.slice ((g2008 0).1) y2003.Gave.length ((g2008 0).2)) rfl (by kernel_rfl) (by kernel_rfl) (by kernel_rfl) (M2082.blk 1 (b := b2013) (o := .cells ⟨[.int .i64 y2003.Guest, .int .i64 y2003.Goal, .slice ((g2008 0).1) y2003.Gave.length ((g2008 0).2)]⟩ 50 (0, 0)) (by kernel_rfl))) ?_
            refine W_run 2 [(0, .slice p1270 x1268.length c1271), (1, .slice p1275 x1273.length c1276), (5, .slice p1996 s1986.1.length c1997), (14, .slice p1275 x1273.length c1276), (15, .int .i64 (x1273.length : Int)), (16, .int .i64 s1986.2), (56, .slice ((g2008 0).1) y2003.Gave.length ((g2008 0).2)), (57, .int .i64 (y2003.Gave.length : Int)), (58, .int .i64 0)] w2081 (by kernel_rfl) ?_
            refine W_nil ?_
            refine N_then ?_
            obtain ⟨out2172, hw2173, hmo2174⟩ := gx_bind hm
            refine G_meet (fun a w' => ∃ (o2180 : List Int), ∃ (p2181 : Option Addr), ∃ (c2182 : Nat), ∃ (sg2183 : Seg), ownS encI o2180 p2181 c2182 sg2183 ∧ out2172 = .inl o2180 ∧ Mem [] w w' [sg2183] ∧ Sat Try.f17.ntmps [(0, .slice p1270 x1268.length c1271), (1, .slice p1275 x1273.length c1276), (5, .slice p2181 o2180.length c2182), (14, .slice p1275 x1273.length c1276), (15, .int .i64 (x1273.length : Int)), (16, .int .i64 s1986.2)] a) ?_ ?_
            · refine G_block ?_
              refine G_while (σ := List Int × Int) (ρ := (List Int) ⊕ (Bool)) (fun s2165 a w' => ∃ (p2175 : Option Addr), ∃ (c2176 : Nat), ∃ (sg2177 : Seg), ownS encI s2165.1 p2175 c2176 sg2177 ∧ Mem [] w w' [sg2177] ∧ Sat Try.f17.ntmps [(0, .slice p1270 x1268.length c1271), (1, .slice p1275 x1273.length c1276), (5, .slice p2175 s2165.1.length c2176), (14, .slice p1275 x1273.length c1276), (15, .int .i64 (x1273.length : Int)), (16, .int .i64 s1986.2), (56, .slice ((g2008 0).1) y2003.Gave.length ((g2008 0).2)), (57, .int .i64 (y2003.Gave.length : Int)), (58, .int .i64 s2165.2)] a) hw2173 (fun a ha => ⟨p1996, c1997, sg1998, ho1999, M2082.pick [0] (by kernel_rfl), ha.sub (by kernel_rfl)⟩) ?_
              clear hm
              intro s2165 x2166 hm hout2167 a2168 w2169 ⟨p2175, c2176, sg2177, ho2178, M2170, hS2171⟩
              refine G_use hS2171 ?_
              refine G_seq ?_
              refine G_region ?_
              refine W_run 1 [(0, .slice p1270 x1268.length c1271), (1, .slice p1275 x1273.length c1276), (5, .slice p2175 s2165.1.length c2176), (14, .slice p1275 x1273.length c1276), (15, .int .i64 (x1273.length : Int)), (16, .int .i64 s1986.2), (56, .slice ((g2008 0).1) y2003.Gave.length ((g2008 0).2)), (57, .int .i64 (y2003.Gave.length : Int)), (58, .int .i64 s2165.2), (59, .bool (decide (s2165.2 < (y2003.Gave.length : Int))))] w2169 (by kernel_rfl) ?_
              refine W_nil ?_
              refine N_then ?_
              refine G_seq ?_
              rcases gx_bif hm with ⟨hc2186, hm⟩ | ⟨hc2186, hm⟩
              · refine G_cond_t (b := (decide (s2165.2 < (y2003.Gave.length : Int)))) hc2186 (by kernel_rfl) ?_
                refine G_skip ?_
                refine N_then ?_
                refine G_seq ?_
                refine G_block ?_
                refine G_seq ?_
                refine G_region ?_
                obtain ⟨y2187, hy2187, hm⟩ := gx_bind hm
                refine W_val (elemP ((g2008 0).1) (s2165.2.toNat * 1)) w2169 (by kernel_rfl) (E_index (E := encI) _ _ _ y2003.Gave.length ((g2008 0).2) .i64 s2165.2 1 (y := y2187) rfl (by kernel_rfl) (by kernel_rfl) (by kernel_rfl) ((hi2007.mem0 M2170).at_ hg2009 0 ⟨Int, encI, y2003.Gave, (g2008 0).1, (g2008 0).2⟩ (by kernel_rfl)) rfl hy2187) ?_
                refine W_val (.int .i64 y2187) w2169 (by kernel_rfl) (E_loadE (E := encI) _ _ false 1 s2165.2 0 (s2165.2.toNat * 1) y2187 (.int .i64 y2187) rfl (by kernel_rfl) (by kernel_rfl) (by kernel_rfl) ((hi2007.mem0 M2170).at_ hg2009 0 ⟨Int, encI, y2003.Gave, (g2008 0).1, (g2008 0).2⟩ (by kernel_rfl)) hy2187 rfl) ?_
                refine W_run 1 [(0, .slice p1270 x1268.length c1271), (1, .slice p1275 x1273.length c1276), (5, .slice p2175 s2165.1.length c2176), (9, .int .i64 y2187), (14, .slice p1275 x1273.length c1276), (15, .int .i64 (x1273.length : Int)), (16, .int .i64 s1986.2), (56, .slice ((g2008 0).1) y2003.Gave.length ((g2008 0).2)), (57, .int .i64 (y2003.Gave.length : Int)), (58, .int .i64 s2165.2)] w2169 (by kernel_rfl) ?_
                refine W_nil ?_
                refine N_then ?_
                refine G_seq ?_
                refine G_seq ?_
                obtain ⟨o2194, ho2195, hm2196⟩ := gx_bind hm
                refine G_meet (fun a w' => Mem [] w w' [sg2177] ∧ Sat Try.f17.ntmps [(0, .slice p1270 x1268.length c1271), (1, .slice p1275 x1273.length c1276), (5, .slice p2175 s2165.1.length c2176), (9, .int .i64 y2187), (14, .slice p1275 x1273.length c1276), (15, .int .i64 (x1273.length : Int)), (16, .int .i64 s1986.2), (56, .slice ((g2008 0).1) y2003.Gave.length ((g2008 0).2)), (57, .int .i64 (y2003.Gave.length : Int)), (58, .int .i64 s2165.2), (71, .bool o2194)] a) ?_ ?_
                · have hm := ho2195
                  refine G_region ?_
                  refine W_run 2 [(0, .slice p1270 x1268.length c1271), (1, .slice p1275 x1273.length c1276), (5, .slice p2175 s2165.1.length c2176), (9, .int .i64 y2187), (14, .slice p1275 x1273.length c1276), (15, .int .i64 (x1273.length : Int)), (16, .int .i64 s1986.2), (56, .slice ((g2008 0).1) y2003.Gave.length ((g2008 0).2)), (57, .int .i64 (y2003.Gave.length : Int)), (58, .int .i64 s2165.2), (62, .slice p1270 x1268.length c1271), (63, .int .i64 y2187)] w2169 (by kernel_rfl) ?_
                  obtain ⟨y2197, hy2197, hm⟩ := gx_bind hm
                  refine W_val (elemP p1270 (y2187.toNat * 1)) w2169 (by kernel_rfl) (E_index (E := encI) _ _ _ x1268.length c1271 .i64 y2187 1 (y := y2197) rfl (by kernel_rfl) (by kernel_rfl) (by kernel_rfl) (h1272.mem0 M2170) rfl hy2197) ?_
                  refine W_val (.int .i64 y2197) w2169 (by kernel_rfl) (E_loadE (E := encI) _ _ false 1 y2187 0 (y2187.toNat * 1) y2197 (.int .i64 y2197) rfl (by kernel_rfl) (by kernel_rfl) (by kernel_rfl) (h1272.mem0 M2170) hy2197 rfl) ?_
                  refine W_run 2 [(0, .slice p1270 x1268.length c1271), (1, .slice p1275 x1273.length c1276), (5, .slice p2175 s2165.1.length c2176), (9, .int .i64 y2187), (14, .slice p1275 x1273.length c1276), (15, .int .i64 (x1273.length : Int)), (16, .int .i64 s1986.2), (56, .slice ((g2008 0).1) y2003.Gave.length ((g2008 0).2)), (57, .int .i64 (y2003.Gave.length : Int)), (58, .int .i64 s2165.2), (67, .bool (y2197 != 0))] w2169 (by kernel_rfl) ?_
                  rcases gx_bif hm with ⟨hc2198, hm⟩ | ⟨hc2198, hm⟩
                  · refine W_known 67 true (by kernel_rfl) hc2198 ?_
                    refine W_run 4 [(0, .slice p1270 x1268.length c1271), (1, .slice p1275 x1273.length c1276), (5, .slice p2175 s2165.1.length c2176), (9, .int .i64 y2187), (14, .slice p1275 x1273.length c1276), (15, .int .i64 (x1273.length : Int)), (16, .int .i64 s1986.2), (56, .slice ((g2008 0).1) y2003.Gave.length ((g2008 0).2)), (57, .int .i64 (y2003.Gave.length : Int)), (58, .int .i64 s2165.2), (71, .bool true)] w2169 (by kernel_rfl) ?_
                    refine W_nil ?_
                    obtain rfl := Option.some.inj hm
                    exact N_meet fun a ha => ⟨M2170.pick [0] (by kernel_rfl), ha.sub (by kernel_rfl)⟩
                  · refine W_known 67 false (by kernel_rfl) hc2198 ?_
                    refine W_run 2 [(0, .slice p1270 x1268.length c1271), (1, .slice p1275 x1273.length c1276), (5, .slice p2175 s2165.1.length c2176), (9, .int .i64 y2187), (14, .slice p1275 x1273.length c1276), (15, .int .i64 (x1273.length : Int)), (16, .int .i64 s1986.2), (56, .slice ((g2008 0).1) y2003.Gave.length ((g2008 0).2)), (57, .int .i64 (y2003.Gave.length : Int)), (58, .int .i64 s2165.2), (67, .bool false), (68, .slice p2175 s2165.1.length c2176), (69, .int .i64 y2187)] w2169 (by kernel_rfl) ?_
                    obtain ⟨r2199, hr2199, hm⟩ := gx_bind hm
                    refine W_call 53 #[.slice p2175 s2165.1.length c2176, .int .i64 y2187] (by kernel_rfl) (by kernel_rfl) ?_
                    refine (c_slices_Contains_53 w2169 s2165.1 p2175 c2176 (ho2178.rd M2170 0 (by kernel_rfl)) y2187 hr2199).mono ?_
                    rintro e_ w2200 ⟨rfl, K2201⟩
                    have M2202 := M2170.call0 K2201
                    refine ⟨_, rfl, ?_⟩
                    refine W_run 1 [(0, .slice p1270 x1268.length c1271), (1, .slice p1275 x1273.length c1276), (5, .slice p2175 s2165.1.length c2176), (9, .int .i64 y2187), (14, .slice p1275 x1273.length c1276), (15, .int .i64 (x1273.length : Int)), (16, .int .i64 s1986.2), (56, .slice ((g2008 0).1) y2003.Gave.length ((g2008 0).2)), (57, .int .i64 (y2003.Gave.length : Int)), (58, .int .i64 s2165.2), (71, .bool r2199)] w2200 (by kernel_rfl) ?_
                    refine W_nil ?_
                    obtain rfl := Option.some.inj hm
                    exact N_meet fun a ha => ⟨M2202.pick [0] (by kernel_rfl), ha.sub (by kernel_rfl)⟩
                · intro a2205 w2203 ⟨M2204, hS2206⟩
                  refine N_use hS2206 ?_
                  have hm := hm2196
                  refine N_then ?_
                  rcases gx_bif hm with ⟨hc2207, hm⟩ | ⟨hc2207, hm⟩
                  · refine G_cond_t (b := o2194) hc2207 (by kernel_rfl) ?_
                    refine G_seq ?_
                    refine G_region ?_
                    refine W_run 1 [(4, .bool false)] w2203 (by kernel_rfl) ?_
                    refine W_nil ?_
                    refine N_then ?_
                    refine G_ret ?_
                    refine N_then_ret ?_
                    refine N_block_ret ?_
                    refine N_then_ret ?_
                    refine N_then_ret ?_
                    obtain rfl := Option.some.inj hm
                    obtain rfl := hout2167 _ rfl
                    have hm := hmo2174; simp only [Sum.elim_inr] at hm
                    refine N_block_ret ?_
                    refine N_meet_ret ?_
                    refine N_block_ret ?_
                    refine N_then_ret ?_
                    refine N_then_ret ?_
                    obtain rfl := Option.some.inj hm
                    obtain rfl := hout1988 _ rfl
                    have hm := hmo1995; simp only [Sum.elim_inr] at hm
                    refine N_block_ret ?_
                    refine N_meet_ret ?_
                    refine N_then_ret ?_
                    obtain rfl := Option.some.inj hm
                    refine N_ret [.bool false] (RVs_cons (RV_tmp (by kernel_rfl)) RVs_nil) ?_
                    exact ⟨rfl, M2204.pick [] (by kernel_rfl)⟩
                  · refine G_cond_f (b := o2194) hc2207 (by kernel_rfl) ?_
                    refine G_skip ?_
                    refine N_then ?_
                    refine G_region ?_
                    refine W_run 2 [(0, .slice p1270 x1268.length c1271), (1, .slice p1275 x1273.length c1276), (5, .slice p2175 s2165.1.length c2176), (14, .slice p1275 x1273.length c1276), (15, .int .i64 (x1273.length : Int)), (16, .int .i64 s1986.2), (56, .slice ((g2008 0).1) y2003.Gave.length ((g2008 0).2)), (57, .int .i64 (y2003.Gave.length : Int)), (58, .int .i64 s2165.2), (72, .slice p2175 s2165.1.length c2176), (73, .int .i64 y2187)] w2203 (by kernel_rfl) ?_
                    refine W_lit (E := encI) [y2187] 1 [.int .i64 y2187] 3 M2204 (by kernel_rfl) (by kernel_rfl) (by kernel_rfl) (by kernel_rfl) (by kernel_rfl) ?_
                    intro p2208 c2209 sg2210 w2211 ho2212 M2213
                    obtain ⟨ap2215, hap2215, hm⟩ := gx_bind hm
                    refine W_append (E := encI) _ _ _ 8 [.int .i64 0] 0 c2209 M2213 ho2178 (by kernel_rfl) (by kernel_rfl) (by kernel_rfl) rfl (by kernel_rfl) (by kernel_rfl) (by kernel_rfl) (by kernel_rfl) (by kernel_rfl) (by kernel_rfl) (ho2212.rd M2213 1 (by kernel_rfl)) hap2215 ?_
                    intro p2216 c2217 sg2218 w2219 ho2220 M2221
                    refine W_run 1 [(0, .slice p1270 x1268.length c1271), (1, .slice p1275 x1273.length c1276), (5, .slice p2216 ap2215.length c2217), (14, .slice p1275 x1273.length c1276), (15, .int .i64 (x1273.length : Int)), (16, .int .i64 s1986.2), (56, .slice ((g2008 0).1) y2003.Gave.length ((g2008 0).2)), (57, .int .i64 (y2003.Gave.length : Int)), (58, .int .i64 s2165.2)] w2219 (by kernel_rfl) ?_
                    refine W_nil ?_
                    refine N_block ?_
                    refine N_then ?_
                    refine G_region ?_
                    refine W_run 2 [(0, .slice p1270 x1268.length c1271), (1, .slice p1275 x1273.length c1276), (5, .slice p2216 ap2215.length c2217), (14, .slice p1275 x1273.length c1276), (15, .int .i64 (x1273.length : Int)), (16, .int .i64 s1986.2), (56, .slice ((g2008 0).1) y2003.Gave.length ((g2008 0).2)), (57, .int .i64 (y2003.Gave.length : Int)), (58, .int .i64 (w64 (s2165.2 + 1)))] w2219 (by kernel_rfl) ?_
                    refine W_nil ?_
                    obtain rfl := Option.some.inj hm
                    exact N_loop fun a ha => ⟨_, rfl, p2216, c2217, sg2218, ho2220, M2221.pick [0] (by kernel_rfl), ha.sub (by kernel_rfl)⟩
              · refine G_cond_f (b := (decide (s2165.2 < (y2003.Gave.length : Int)))) hc2186 (by kernel_rfl) ?_
                refine G_exit ?_
                refine N_then_exit ?_
                refine N_then_exit ?_
                refine N_block_eq ?_
                obtain rfl := Option.some.inj hm
                obtain rfl := hout2167 _ rfl
                exact N_meet fun a ha => ⟨_, p2175, c2176, sg2177, ho2178, rfl, M2170.pick [0] (by kernel_rfl), ha.sub (by kernel_rfl)⟩
            · intro a2223 w2224 ⟨o2180, p2181, c2182, sg2183, ho2184, hout_, M2225, hS2226⟩
              refine N_use hS2226 ?_
              subst hout_
              have hm := hmo2174; simp only [Sum.elim_inl] at hm
              refine N_block ?_
              refine N_then ?_
              refine G_region ?_
              refine W_run 2 [(0, .slice p1270 x1268.length c1271), (1, .slice p1275 x1273.length c1276), (5, .slice p2181 o2180.length c2182), (14, .slice p1275 x1273.length c1276), (15, .int .i64 (x1273.length : Int)), (16, .int .i64 (w64 (s1986.2 + 1)))] w2224 (by kernel_rfl) ?_
              refine W_nil ?_
              obtain rfl := Option.some.inj hm
              exact N_loop fun a ha => ⟨_, rfl, p2181, c2182, sg2183, ho2184, M2225.pick [0] (by kernel_rfl), ha.sub (by kernel_rfl)⟩
      · refine G_cond_f (b := (decide (s1986.2 < (x1273.length : Int)))) hc2002 (by kernel_rfl) ?_
        refine G_exit ?_
        refine N_then_exit ?_
        refine N_then_exit ?_
        refine N_block_eq ?_
        obtain rfl := Option.some.inj hm
        obtain rfl := hout1988 _ rfl
        exact N_meet fun a ha => ⟨_, rfl, M1991.pick [] (by kernel_rfl), ha.sub (by kernel_rfl)⟩
    · intro a2227 w2228 ⟨o2001, hout_, M2229, hS2230⟩
      refine N_use hS2230 ?_
      subst hout_
      have hm := hmo1995; simp only [Sum.elim_inl] at hm
      refine N_then ?_
      refine G_seq ?_
      refine G_region ?_
      refine W_run 1 [(4, .bool true)] w2228 (by kernel_rfl) ?_
      refine W_nil ?_
      refine N_then ?_
      refine G_ret ?_
      obtain rfl := Option.some.inj hm
      refine N_ret [.bool true] (RVs_cons (RV_tmp (by kernel_rfl)) RVs_nil) ?_
      exact ⟨rfl, M2229.pick [] (by kernel_rfl)⟩
theorem c_l_eqIntS (w : World) (x2245 : List Int) (p2247 : Option Addr) (c2248 : Nat) (h2249 : rdS encI w x2245 p2247 c2248) (x2250 : List Int) (p2252 : Option Addr) (c2253 : Nat) (h2254 : rdS encI w x2250 p2252 c2253) {r : Bool} (hm : M.l_eqIntS x2245 x2250 = some r) :
    Calls Try.prog 18 #[.slice p2247 x2245.length c2248, .slice p2252 x2250.length c2253] w fun e w' => e = .returned (.bool r) ∧ Mem [] w w' [] := by
  unfold M.l_eqIntS at hm
  refine C_enter Try.func18 rfl (by kernel_rfl) ?_
  have M0 := Mem.refl [] w
  refine G_seq ?_
  refine G_region ?_
  refine W_run 1 [(0, .slice p2247 x2245.length c2248), (1, .slice p2252 x2250.length c2253)] w (by kernel_rfl) ?_
  refine W_nil ?_
  refine N_then ?_
  refine G_seq ?_
  refine G_seq ?_
  refine G_region ?_
  refine W_run 5 [(0, .slice p2247 x2245.length c2248), (1, .slice p2252 x2250.length c2253), (10, .bool ((x2245.length : Int) != (x2250.length : Int)))] w (by kernel_rfl) ?_
  refine W_nil ?_
  refine N_then ?_
  rcases gx_bif hm with ⟨hc2255, hm⟩ | ⟨hc2255, hm⟩
  · refine G_cond_t (b := ((x2245.length : Int) != (x2250.length : Int))) hc2255 (by kernel_rfl) ?_
    refine G_seq ?_
    refine G_region ?_
    refine W_run 1 [(4, .bool false)] w (by kernel_rfl) ?_
    refine W_nil ?_
    refine N_then ?_
    refine G_ret ?_
    refine N_then_ret ?_
    obtain rfl := Option.some.inj hm
    refine N_ret [.bool false] (RVs_cons (RV_tmp (by kernel_rfl)) RVs_nil) ?_
    exact ⟨rfl, M0.pick [] (by kernel_rfl)⟩
  · refine G_cond_f (b := ((x2245.length : Int) != (x2250.length : Int))) hc2255 (by kernel_rfl) ?_
    refine G_skip ?_
    refine N_then ?_
    refine G_seq ?_
    refine G_seq ?_
    refine G_region ?_
    refine W_run 1 [(0, .slice p2247 x2245.length c2248), (1, .slice p2252 x2250.length c2253), (5, .int .i64 0)] w (by kernel_rfl) ?_
    refine W_nil ?_
    refine N_then ?_
    obtain ⟨out2275, hw2276, hmo2277⟩ := gx_bind hm
    refine G_meet (fun a w' => ∃ (o2278 : Unit), out2275 = .inl o2278 ∧ Mem [] w w' [] ∧ Sat Try.f18.ntmps [] a) ?_ ?_
    · refine G_block ?_
      refine G_while (σ := Int) (ρ := (Unit) ⊕ (Bool)) (fun s2268 a w' => Mem [] w w' [] ∧ Sat Try.f18.ntmps [(0, .slice p2247 x2245.length c2248), (1, .slice p2252 x2250.length c2253), (5, .int .i64 s2268)] a) hw2276 (fun a ha => ⟨M0.pick [] (by kernel_rfl), ha.sub (by kernel_rfl)⟩) ?_
      clear hm
      intro s2268 x2269 hm hout2270 a2271 w2272 ⟨M2273, hS2274⟩
      refine G_use hS2274 ?_
      refine G_seq ?_
      refine G_seq ?_
      refine G_region ?_
      refine W_run 4 [(0, .slice p2247 x2245.length c2248), (1, .slice p2252 x2250.length c2253), (5, .int .i64 s2268), (14, .bool (decide (s2268 < (x2245.length : Int))))] w2272 (by kernel_rfl) ?_
      refine W_nil ?_
      refine N_then ?_
      rcases gx_bif hm with ⟨hc2279, hm⟩ | ⟨hc2279, hm⟩
      · refine G_cond_t (b := (decide (s2268 < (x2245.length : Int)))) hc2279 (by kernel_rfl) ?_
        refine G_skip ?_
        refine N_then ?_
        refine G_seq ?_
        refine G_block ?_
        refine G_seq ?_
        refine G_quiet (by kernel_rfl) (by kernel_rfl) M2273 ?_
        refine Z_runs [.slice p2247 x2245.length c2248, .int .i64 s2268] [(0, .slice p2247 x2245.length c2248), (1, .slice p2252 x2250.length c2253), (5, .int .i64 s2268), (17, .slice p2247 x2245.length c2248), (18, .int .i64 s2268)] (fun w_ => by kernel_rfl) (by kernel_rfl) ?_
        obtain ⟨y2280, hy2280, hm⟩ := gx_bind hm
        refine Z_val (elemP p2247 (s2268.toNat * 1)) (by kernel_rfl) (fun w_ M_ => (E_index (E := encI) _ _ _ x2245.length c2248 .i64 s2268 1 (y := y2280) rfl (by kernel_rfl) (by kernel_rfl) (by kernel_rfl) (h2249.mem0 M_) rfl hy2280)) ?_
        refine Z_val (.int .i64 y2280) (by kernel_rfl) (fun w_ M_ => (E_loadE (E := encI) _ _ false 1 s2268 0 (s2268.toNat * 1) y2280 (.int .i64 y2280) rfl (by kernel_rfl) (by kernel_rfl) (by kernel_rfl) (h2249.mem0 M_) hy2280 rfl)) ?_
        refine Z_runs [.slice p2252 x2250.length c2253, .int .i64 s2268] [(0, .slice p2247 x2245.length c2248), (1, .slice p2252 x2250.length c2253), (5, .int .i64 s2268), (20, .int .i64 y2280), (21, .slice p2252 x2250.length c2253), (22, .int .i64 s2268)] (fun w_ => by kernel_rfl) (by kernel_rfl) ?_
        obtain ⟨y2281, hy2281, hm⟩ := gx_bind hm
        refine Z_val (elemP p2252 (s2268.toNat * 1)) (by kernel_rfl) (fun w_ M_ => (E_index (E := encI) _ _ _ x2250.length c2253 .i64 s2268 1 (y := y2281) rfl (by kernel_rfl) (by kernel_rfl) (by kernel_rfl) (h2254.mem0 M_) rfl hy2281)) ?_
        refine Z_val (.int .i64 y2281) (by kernel_rfl) (fun w_ M_ => (E_loadE (E := encI) _ _ false 1 s2268 0 (s2268.toNat * 1) y2281 (.int .i64 y2281) rfl (by kernel_rfl) (by kernel_rfl) (by kernel_rfl) (h2254.mem0 M_) hy2281 rfl)) ?_
        refine Z_runs [.bool (y2280 != y2281)] [(0, .slice p2247 x2245.length c2248), (1, .slice p2252 x2250.length c2253), (5, .int .i64 s2268), (25, .bool (y2280 != y2281))] (fun w_ => by kernel_rfl) (by kernel_rfl) ?_
        refine Z_end fun w2282 M2283 => ?_
        refine N_then ?_
        rcases gx_bif hm with ⟨hc2284, hm⟩ | ⟨hc2284, hm⟩
        · refine G_cond_t (b := (y2280 != y2281)) hc2284 (by kernel_rfl) ?_
          refine G_seq ?_
          refine G_region ?_
          refine W_run 1 [(4, .bool false)] w2282 (by kernel_rfl) ?_
          refine W_nil ?_
          refine N_then ?_
          refine G_ret ?_
          refine N_block_ret ?_
          refine N_then_ret ?_
          refine N_then_ret ?_
          obtain rfl := Option.some.inj hm
          obtain rfl := hout2270 _ rfl
          have hm := hmo2277; simp only [Sum.elim_inr] at hm
          refine N_block_ret ?_
          refine N_meet_ret ?_
          refine N_then_ret ?_
          obtain rfl := Option.some.inj hm
          refine N_ret [.bool false] (RVs_cons (RV_tmp (by kernel_rfl)) RVs_nil) ?_
          exact ⟨rfl, M2283.pick [] (by kernel_rfl)⟩
        · refine G_cond_f (b := (y2280 != y2281)) hc2284 (by kernel_rfl) ?_
          refine G_skip ?_
          refine N_block ?_
          refine N_then ?_
          refine G_region ?_
          refine W_run 3 [(0, .slice p2247 x2245.length c2248), (1, .slice p2252 x2250.length c2253), (5, .int .i64 (w64 (s2268 + 1)))] w2282 (by kernel_rfl) ?_
          refine W_nil ?_
          obtain rfl := Option.some.inj hm
          exact N_loop fun a ha => ⟨_, rfl, M2283.pick [] (by kernel_rfl), ha.sub (by kernel_rfl)⟩
      · refine G_cond_f (b := (decide (s2268 < (x2245.length : Int)))) hc2279 (by kernel_rfl) ?_
        refine G_exit ?_
        refine N_then_exit ?_
        refine N_then_exit ?_
        refine N_block_eq ?_
        obtain rfl := Option.some.inj hm
        obtain rfl := hout2270 _ rfl
        exact N_meet fun a ha => ⟨_, rfl, M2273.pick [] (by kernel_rfl), ha.sub (by kernel_rfl)⟩
    · intro a2285 w2286 ⟨o2278, hout_, M2287, hS2288⟩
      refine N_use hS2288 ?_
      subst hout_
      have hm := hmo2277; simp only [Sum.elim_inl] at hm
      refine N_then ?_
      refine G_seq ?_
      refine G_region ?_
      refine W_run 1 [(4, .bool true)] w2286 (by kernel_rfl) ?_
      refine W_nil ?_
      refine N_then ?_
      refine G_ret ?_
      obtain rfl := Option.some.inj hm
      refine N_ret [.bool true] (RVs_cons (RV_tmp (by kernel_rfl)) RVs_nil) ?_
      exact ⟨rfl, M2287.pick [] (by kernel_rfl)⟩
theorem c_l_eqBalloon (w : World) (x2332 : Balloon) (p2334 : Option Addr) (c2335 : Nat) (h2336 : rdS encI w x2332.Gave p2334 c2335) (x2337 : Balloon) (p2339 : Option Addr) (c2340 : Nat) (h2341 : rdS encI w x2337.Gave p2339 c2340) {r : Bool} (hm : M.l_eqBalloon x2332 x2337 = some r) :
    Calls Try.prog 54 #[.agg #[.int .i64 x2332.Guest, .int .i64 x2332.Goal, .slice p2334 x2332.Gave.length c2335], .agg #[.int .i64 x2337.Guest, .int .i64 x2337.Goal, .slice p2339 x2337.Gave.length c2340]] w fun e w' => e = .returned (.bool r) ∧ Mem [] w w' [] := by
  unfold M.l_eqBalloon at hm
  refine C_enter Try.func54 rfl (by kernel_rfl) ?_
  have M0 := Mem.refl [] w
  refine G_seq ?_
  refine G_region ?_
  refine W_new (fun b => .pointer (some ⟨b, 0, none⟩)) (.cells ⟨[.int .i64 x2332.Guest, .int .i64 x2332.Goal, .slice p2334 x2332.Gave.length c2335]⟩ 50 (0, 0)) M0 rfl (by kernel_rfl) (by kernel_rfl) ?_
  intro b2343 w2344 M2345
  refine W_new (fun b => .pointer (some ⟨b, 0, none⟩)) (.cells ⟨[.int .i64 x2337.Guest, .int .i64 x2337.Goal, .slice p2339 x2337.Gave.length c2340]⟩ 50 (0, 0)) M2345 rfl (by kernel_rfl) (by kernel_rfl) ?_
  intro b2347 w2348 M2349
  refine W_run 1 [(2, .pointer (some ⟨b2343, 0, none⟩)), (3, .pointer (some ⟨b2347, 0, none⟩))] w2348 (by kernel_rfl) ?_
  refine W_nil ?_
  refine N_then ?_
  refine G_seq ?_
  refine G_seq ?_
  refine G_region ?_
  refine W_run 1 [(2, .pointer (some ⟨b2343, 0, none⟩)), (3, .pointer (some ⟨b2347, 0, none⟩)), (5, .pointer (some ⟨b2343, 0, none⟩))] w2348 (by kernel_rfl) ?_
  refine W_val (.int .i64 x2332.Guest) w2348 (by kernel_rfl) (E_load (e := 50) (fr := (0, 0)) _ _ false 1 b2343 0 [.int .i64 x2332.Guest, .int .i64 x2332.Goal, .slice p2334 x2332.Gave.length c2335] (.int .i64 x2332.Guest) rfl (by kernel_rfl) (by kernel_rfl) (by kernel_rfl) (M2349.blk 0 (b := b2343) (o := .cells ⟨[.int .i64 x2332.Guest, .int .i64 x2332.Goal, .slice p2334 x2332.Gave.length c2335]⟩ 50 (0, 0)) (by kernel_rfl))) ?_
  refine W_run 1 [(2, .pointer (some ⟨b2343, 0, none⟩)), (3, .pointer (some ⟨b2347, 0, none⟩)), (6, .int .i64 x2332.Guest), (7, .pointer (some ⟨b2347, 0, none⟩))] w2348 (by kernel_rfl) ?_
  refine W_val (.int .i64 x2337.Guest) w2348 (by kernel_rfl) (E_load (e := 50) (fr := (0, 0)) _ _ false 1 b2347 0 [.int .i64 x2337.Guest, .int .i64 x2337.Goal, .slice p2339 x2337.Gave.length c2340] (.int .i64 x2337.Guest) rfl (by kernel_rfl) (by kernel_rfl) (by kernel_rfl) (M2349.blk 1 (b := b2347) (o := .cells ⟨[.int .i64 x2337.Guest, .int .i64 x2337.Goal, .slice p2339 x2337.Gave.length c2340]⟩ 50 (0, 0)) (by kernel_rfl))) ?_
  refine W_run 1 [(2, .pointer (some ⟨b2343, 0, none⟩)), (3, .pointer (some ⟨b2347, 0, none⟩)), (9, .bool (x2332.Guest != x2337.Guest))] w2348 (by kernel_rfl) ?_
  refine W_nil ?_
  refine N_then ?_
  rcases gx_bif hm with ⟨hc2350, hm⟩ | ⟨hc2350, hm⟩
  · refine G_cond_t (b := (x2332.Guest != x2337.Guest)) hc2350 (by kernel_rfl) ?_
    refine G_seq ?_
    refine G_region ?_
    refine W_run 1 [(4, .bool false)] w2348 (by kernel_rfl) ?_
    refine W_nil ?_
    refine N_then ?_
    refine G_ret ?_
    refine N_then_ret ?_
    obtain rfl := Option.some.inj hm
    refine N_ret [.bool false] (RVs_cons (RV_tmp (by kernel_rfl)) RVs_nil) ?_
    exact ⟨rfl, M2349.pick [] (by kernel_rfl)⟩
  · refine G_cond_f (b := (x2332.Guest != x2337.Guest)) hc2350 (by kernel_rfl) ?_
    refine G_skip ?_
    refine N_then ?_
    refine G_seq ?_
    refine G_seq ?_
    refine G_region ?_
    refine W_run 1 [(2, .pointer (some ⟨b2343, 0, none⟩)), (3, .pointer (some ⟨b2347, 0, none⟩)), (10, .pointer (some ⟨b2343, 1, none⟩))] w2348 (by kernel_rfl) ?_
    refine W_val (.int .i64 x2332.Goal) w2348 (by kernel_rfl) (E_load (e := 50) (fr := (0, 0)) _ _ false 1 b2343 1 [.int .i64 x2332.Guest, .int .i64 x2332.Goal, .slice p2334 x2332.Gave.length c2335] (.int .i64 x2332.Goal) rfl (by kernel_rfl) (by kernel_rfl) (by kernel_rfl) (M2349.blk 0 (b := b2343) (o := .cells ⟨[.int .i64 x2332.Guest, .int .i64 x2332.Goal, .slice p2334 x2332.Gave.length c2335]⟩ 50 (0, 0)) (by kernel_rfl))) ?_
    refine W_run 1 [(2, .pointer (some ⟨b2343, 0, none⟩)), (3, .pointer (some ⟨b2347, 0, none⟩)), (11, .int .i64 x2332.Goal), (12, .pointer (some ⟨b2347, 1, none⟩))] w2348 (by kernel_rfl) ?_
    refine W_val (.int .i64 x2337.Goal) w2348 (by kernel_rfl) (E_load (e := 50) (fr := (0, 0)) _ _ false 1 b2347 1 [.int .i64 x2337.Guest, .int .i64 x2337.Goal, .slice p2339 x2337.Gave.length c2340] (.int .i64 x2337.Goal) rfl (by kernel_rfl) (by kernel_rfl) (by kernel_rfl) (M2349.blk 1 (b := b2347) (o := .cells ⟨[.int .i64 x2337.Guest, .int .i64 x2337.Goal, .slice p2339 x2337.Gave.length c2340]⟩ 50 (0, 0)) (by kernel_rfl))) ?_
    refine W_run 1 [(2, .pointer (some ⟨b2343, 0, none⟩)), (3, .pointer (some ⟨b2347, 0, none⟩)), (14, .bool (x2332.Goal != x2337.Goal))] w2348 (by kernel_rfl) ?_
    refine W_nil ?_
    refine N_then ?_
    rcases gx_bif hm with ⟨hc2351, hm⟩ | ⟨hc2351, hm⟩
    · refine G_cond_t (b := (x2332.Goal != x2337.Goal)) hc2351 (by kernel_rfl) ?_
      refine G_seq ?_
      refine G_region ?_
      refine W_run 1 [(4, .bool false)] w2348 (by kernel_rfl) ?_
      refine W_nil ?_
      refine N_then ?_
      refine G_ret ?_
      refine N_then_ret ?_
      obtain rfl := Option.some.inj hm
      refine N_ret [.bool false] (RVs_cons (RV_tmp (by kernel_rfl)) RVs_nil) ?_
      exact ⟨rfl, M2349.pick [] (by kernel_rfl)⟩
    · refine G_cond_f (b := (x2332.Goal != x2337.Goal)) hc2351 (by kernel_rfl) ?_
      refine G_skip ?_
      refine N_then ?_
      refine G_seq ?_
      refine G_seq ?_
      refine G_region ?_
      refine W_run 1 [(3, .pointer (some ⟨b2347, 0, none⟩)), (15, .pointer (some ⟨b2343, 2, none⟩))] w2348 (by kernel_rfl) ?_
      refine W_val (.slice p2334 x2332.Gave.length c2335) w2348 (by kernel_rfl) (E_load (e := 50) (fr := (0, 0)) _ _ false 1 b2343 2 [.int .i64 x2332.Guest, .int .i64 x2332.Goal, .slice p2334 x2332.Gave.length c2335] (.slice p2334 x2332.Gave.length c2335) rfl (by kernel_rfl) (by kernel_rfl) (by kernel_rfl) (M2349.blk 0 (b := b2343) (o := .cells ⟨[.int .i64 x2332.Guest, .int .i64 x2332.Goal, .slice p2334 x2332.Gave.length c2335]⟩ 50 (0, 0)) (by kernel_rfl))) ?_
      refine W_run 1 [(16, .slice p2334 x2332.Gave.length c2335), (17, .pointer (some ⟨b2347, 2, none⟩))] w2348 (by kernel_rfl) ?_
      refine W_val (.slice p2339 x2337.Gave.length c2340) w2348 (by kernel_rfl) (E_load (e := 50) (fr := (0, 0)) _ _ false 1 b2347 2 [.int .i64 x2337.Guest, .int .i64 x2337.Goal, .slice p2339 x2337.Gave.length c2340] (.slice p2339 x2337.Gave.length c2340) rfl (by kernel_rfl) (by kernel_rfl) (by kernel_rfl) (M2349.blk 1 (b := b2347) (o := .cells ⟨[.int .i64 x2337.Guest, .int .i64 x2337.Goal, .slice p2339 x2337.Gave.length c2340]⟩ 50 (0, 0)) (by kernel_rfl))) ?_
      obtain ⟨r2352, hr2352, hm⟩ := gx_bind hm
      refine W_call 18 #[.slice p2334 x2332.Gave.length c2335, .slice p2339 x2337.Gave.length c2340] (by kernel_rfl) (by kernel_rfl) ?_
      refine (c_l_eqIntS w2348 x2332.Gave p2334 c2335 (h2336.mem0 M2349) x2337.Gave p2339 c2340 (h2341.mem0 M2349) hr2352).mono ?_
      rintro e_ w2353 ⟨rfl, K2354⟩
      have M2355 := M2349.call0 K2354
      refine ⟨_, rfl, ?_⟩
      refine W_run 1 [(20, .bool (!r2352))] w2353 (by kernel_rfl) ?_
      refine W_nil ?_
      refine N_then ?_
      rcases gx_bif hm with ⟨hc2356, hm⟩ | ⟨hc2356, hm⟩
      · refine G_cond_t (b := (!r2352)) hc2356 (by kernel_rfl) ?_
        refine G_seq ?_
        refine G_region ?_
        refine W_run 1 [(4, .bool false)] w2353 (by kernel_rfl) ?_
        refine W_nil ?_
        refine N_then ?_
        refine G_ret ?_
        refine N_then_ret ?_
        obtain rfl := Option.some.inj hm
        refine N_ret [.bool false] (RVs_cons (RV_tmp (by kernel_rfl)) RVs_nil) ?_
        exact ⟨rfl, M2355.pick [] (by kernel_rfl)⟩
      · refine G_cond_f (b := (!r2352)) hc2356 (by kernel_rfl) ?_
        refine G_skip ?_
        refine N_then ?_
        refine G_seq ?_
        refine G_region ?_
        refine W_run 1 [(4, .bool true)] w2353 (by kernel_rfl) ?_
        refine W_nil ?_
        refine N_then ?_
        refine G_ret ?_
        obtain rfl := Option.some.inj hm
        refine N_ret [.bool true] (RVs_cons (RV_tmp (by kernel_rfl)) RVs_nil) ?_
        exact ⟨rfl, M2355.pick [] (by kernel_rfl)⟩
theorem c_l_eqBalloonS (w : World) (x2304 : List Balloon) (p2306 : Option Addr) (c2307 : Nat) (h2308 : rdD deepBalloon w x2304 p2306 c2307) (x2309 : List Balloon) (p2311 : Option Addr) (c2312 : Nat) (h2313 : rdD deepBalloon w x2309 p2311 c2312) {r : Bool} (hm : M.l_eqBalloonS x2304 x2309 = some r) :
    Calls Try.prog 19 #[.slice p2306 x2304.length c2307, .slice p2311 x2309.length c2312] w fun e w' => e = .returned (.bool r) ∧ Mem [] w w' [] := by
  unfold M.l_eqBalloonS at hm
  refine C_enter Try.func19 rfl (by kernel_rfl) ?_
  have M0 := Mem.refl [] w
  refine G_seq ?_
  refine G_region ?_
  refine W_run 1 [(0, .slice p2306 x2304.length c2307), (1, .slice p2311 x2309.length c2312)] w (by kernel_rfl) ?_
  refine W_nil ?_
  refine N_then ?_
  refine G_seq ?_
  refine G_seq ?_
  refine G_region ?_
  refine W_run 5 [(0, .slice p2306 x2304.length c2307), (1, .slice p2311 x2309.length c2312), (10, .bool ((x2304.length : Int) != (x2309.length : Int)))] w (by kernel_rfl) ?_
  refine W_nil ?_
  refine N_then ?_
  rcases gx_bif hm with ⟨hc2314, hm⟩ | ⟨hc2314, hm⟩
  · refine G_cond_t (b := ((x2304.length : Int) != (x2309.length : Int))) hc2314 (by kernel_rfl) ?_
    refine G_seq ?_
    refine G_region ?_
    refine W_run 1 [(4, .bool false)] w (by kernel_rfl) ?_
    refine W_nil ?_
    refine N_then ?_
    refine G_ret ?_
    refine N_then_ret ?_
    obtain rfl := Option.some.inj hm
    refine N_ret [.bool false] (RVs_cons (RV_tmp (by kernel_rfl)) RVs_nil) ?_
    exact ⟨rfl, M0.pick [] (by kernel_rfl)⟩
  · refine G_cond_f (b := ((x2304.length : Int) != (x2309.length : Int))) hc2314 (by kernel_rfl) ?_
    refine G_skip ?_
    refine N_then ?_
    refine G_seq ?_
    refine G_seq ?_
    refine G_region ?_
    refine W_run 1 [(0, .slice p2306 x2304.length c2307), (1, .slice p2311 x2309.length c2312), (5, .int .i64 0)] w (by kernel_rfl) ?_
    refine W_nil ?_
    refine N_then ?_
    obtain ⟨out2395, hw2396, hmo2397⟩ := gx_bind hm
    refine G_meet (fun a w' => ∃ (o2398 : Unit), out2395 = .inl o2398 ∧ Mem [] w w' [] ∧ Sat Try.f19.ntmps [] a) ?_ ?_
    · refine G_block ?_
      refine G_while (σ := Int) (ρ := (Unit) ⊕ (Bool)) (fun s2388 a w' => Mem [] w w' [] ∧ Sat Try.f19.ntmps [(0, .slice p2306 x2304.length c2307), (1, .slice p2311 x2309.length c2312), (5, .int .i64 s2388)] a) hw2396 (fun a ha => ⟨M0.pick [] (by kernel_rfl), ha.sub (by kernel_rfl)⟩) ?_
      clear hm
      intro s2388 x2389 hm hout2390 a2391 w2392 ⟨M2393, hS2394⟩
      refine G_use hS2394 ?_
      refine G_seq ?_
      refine G_seq ?_
      refine G_region ?_
      refine W_run 4 [(0, .slice p2306 x2304.length c2307), (1, .slice p2311 x2309.length c2312), (5, .int .i64 s2388), (14, .bool (decide (s2388 < (x2304.length : Int))))] w2392 (by kernel_rfl) ?_
      refine W_nil ?_
      refine N_then ?_
      rcases gx_bif hm with ⟨hc2399, hm⟩ | ⟨hc2399, hm⟩
      · refine G_cond_t (b := (decide (s2388 < (x2304.length : Int)))) hc2399 (by kernel_rfl) ?_
        refine G_skip ?_
        refine N_then ?_
        refine G_seq ?_
        refine G_block ?_
        refine G_seq ?_
        refine G_quiet (by kernel_rfl) (by kernel_rfl) M2393 ?_
        refine Z_runs [.slice p2306 x2304.length c2307, .int .i64 s2388] [(0, .slice p2306 x2304.length c2307), (1, .slice p2311 x2309.length c2312), (5, .int .i64 s2388), (17, .slice p2306 x2304.length c2307), (18, .int .i64 s2388)] (fun w_ => by kernel_rfl) (by kernel_rfl) ?_
        obtain ⟨y2400, hy2400, hm⟩ := gx_bind hm
        obtain ⟨zs2401, hz2402, hr2403, hi2404⟩ := id h2308
        obtain ⟨g2405, hg2406⟩ := gxIdx_fst hz2402 hy2400
        refine Z_val (elemP p2306 (s2388.toNat * 3)) (by kernel_rfl) (fun w_ M_ => (E_index (E := deepBalloon.E) _ _ _ x2304.length c2307 .i64 s2388 3 (y := (y2400, g2405)) rfl (by kernel_rfl) (by kernel_rfl) (by kernel_rfl) (hr2403.mem0 M_) (len_fst hz2402) hg2406)) ?_
        refine Z_val (.agg #[.int .i64 y2400.Guest, .int .i64 y2400.Goal, .slice ((g2405 0).1) y2400.Gave.length ((g2405 0).2)]) (by kernel_rfl) (fun w_ M_ => (E_loadE (E := deepBalloon.E) _ _ true 3 s2388 0 (s2388.toNat * 3) (y2400, g2405) (.agg #[.int .i64 y2400.Guest, .int .i64 y2400.Goal, .slice ((g2405 0).1) y2400.Gave.length ((g2405 0).2)]) rfl (by kernel_rfl) (by kernel_rfl) (by kernel_rfl) (hr2403.mem0 M_) hg2406 rfl)) ?_
        refine Z_runs [.slice p2311 x2309.length c2312, .int .i64 s2388] [(0, .slice p2306 x2304.length c2307), (1, .slice p2311 x2309.length c2312), (5, .int .i64 s2388), (20, .agg #[.int .i64 y2400.Guest, .int .i64 y2400.Goal, .slice ((g2405 0).1) y2400.Gave.length ((g2405 0).2)]), (21, .slice p2311 x2309.length c2312), (22, .int .i64 s2388)] (fun w_ => by kernel_rfl) (by kernel_rfl) ?_
        obtain ⟨y2408, hy2408, hm⟩ := gx_bind hm
        obtain ⟨zs2409, hz2410, hr2411, hi2412⟩ := id h2313
        obtain ⟨g2413, hg2414⟩ := gxIdx_fst hz2410 hy2408
        refine Z_val (elemP p2311 (s2388.toNat * 3)) (by kernel_rfl) (fun w_ M_ => (E_index (E := deepBalloon.E) _ _ _ x2309.length c2312 .i64 s2388 3 (y := (y2408, g2413)) rfl (by kernel_rfl) (by kernel_rfl) (by kernel_rfl) (hr2411.mem0 M_) (len_fst hz2410) hg2414)) ?_
        refine Z_val (.agg #[.int .i64 y2408.Guest, .int .i64 y2408.Goal, .slice ((g2413 0).1) y2408.Gave.length ((g2413 0).2)]) (by kernel_rfl) (fun w_ M_ => (E_loadE (E := deepBalloon.E) _ _ true 3 s2388 0 (s2388.toNat * 3) (y2408, g2413) (.agg #[.int .i64 y2408.Guest, .int .i64 y2408.Goal, .slice ((g2413 0).1) y2408.Gave.length ((g2413 0).2)]) rfl (by kernel_rfl) (by kernel_rfl) (by kernel_rfl) (hr2411.mem0 M_) hg2414 rfl)) ?_
        obtain ⟨r2416, hr2416, hm⟩ := gx_bind hm
        refine Z_call 54 #[.agg #[.int .i64 y2400.Guest, .int .i64 y2400.Goal, .slice ((g2405 0).1) y2400.Gave.length ((g2405 0).2)], .agg #[.int .i64 y2408.Guest, .int .i64 y2408.Goal, .slice ((g2413 0).1) y2408.Gave.length ((g2413 0).2)]] (.bool r2416) (by kernel_rfl) (fun w_ => by kernel_rfl) (fun w_ M_ => (c_l_eqBalloon w_ y2400 ((g2405 0).1) ((g2405 0).2) ((hi2404.mem0 M_).at_ hg2406 0 ⟨Int, encI, y2400.Gave, (g2405 0).1, (g2405 0).2⟩ (by kernel_rfl)) y2408 ((g2413 0).1) ((g2413 0).2) ((hi2412.mem0 M_).at_ hg2414 0 ⟨Int, encI, y2408.Gave, (g2413 0).1, (g2413 0).2⟩ (by kernel_rfl)) hr2416).mono fun e w2_ h_ => ⟨h_.1, M_.call0 h_.2⟩) ?_
        refine Z_runs [.bool (!r2416)] [(0, .slice p2306 x2304.length c2307), (1, .slice p2311 x2309.length c2312), (5, .int .i64 s2388), (26, .bool (!r2416))] (fun w_ => by kernel_rfl) (by kernel_rfl) ?_
        refine Z_end fun w2420 M2421 => ?_
        refine N_then ?_
        rcases gx_bif hm with ⟨hc2422, hm⟩ | ⟨hc2422, hm⟩
        · refine G_cond_t (b := (!r2416)) hc2422 (by kernel_rfl) ?_
          refine G_seq ?_
          refine G_region ?_
          refine W_run 1 [(4, .bool false)] w2420 (by kernel_rfl) ?_
          refine W_nil ?_
          refine N_then ?_
          refine G_ret ?_
          refine N_block_ret ?_
          refine N_then_ret ?_
          refine N_then_ret ?_
          obtain rfl := Option.some.inj hm
          obtain rfl := hout2390 _ rfl
          have hm := hmo2397; simp only [Sum.elim_inr] at hm
          refine N_block_ret ?_
          refine N_meet_ret ?_
          refine N_then_ret ?_
          obtain rfl := Option.some.inj hm
          refine N_ret [.bool false] (RVs_cons (RV_tmp (by kernel_rfl)) RVs_nil) ?_
          exact ⟨rfl, M2421.pick [] (by kernel_rfl)⟩
        · refine G_cond_f (b := (!r2416)) hc2422 (by kernel_rfl) ?_
          refine G_skip ?_
          refine N_block ?_
          refine N_then ?_
          refine G_region ?_
          refine W_run 3 [(0, .slice p2306 x2304.length c2307), (1, .slice p2311 x2309.length c2312), (5, .int .i64 (w64 (s2388 + 1)))] w2420 (by kernel_rfl) ?_
          refine W_nil ?_
          obtain rfl := Option.some.inj hm
          exact N_loop fun a ha => ⟨_, rfl, M2421.pick [] (by kernel_rfl), ha.sub (by kernel_rfl)⟩
      · refine G_cond_f (b := (decide (s2388 < (x2304.length : Int)))) hc2399 (by kernel_rfl) ?_
        refine G_exit ?_
        refine N_then_exit ?_
        refine N_then_exit ?_
        refine N_block_eq ?_
        obtain rfl := Option.some.inj hm
        obtain rfl := hout2390 _ rfl
        exact N_meet fun a ha => ⟨_, rfl, M2393.pick [] (by kernel_rfl), ha.sub (by kernel_rfl)⟩
    · intro a2423 w2424 ⟨o2398, hout_, M2425, hS2426⟩
      refine N_use hS2426 ?_
      subst hout_
      have hm := hmo2397; simp only [Sum.elim_inl] at hm
      refine N_then ?_
      refine G_seq ?_
      refine G_region ?_
      refine W_run 1 [(4, .bool true)] w2424 (by kernel_rfl) ?_
      refine W_nil ?_
      refine N_then ?_
      refine G_ret ?_
      obtain rfl := Option.some.inj hm
      refine N_ret [.bool true] (RVs_cons (RV_tmp (by kernel_rfl)) RVs_nil) ?_
      exact ⟨rfl, M2425.pick [] (by kernel_rfl)⟩
theorem c_l_FnExactAreBalloons (w : World) (x1 : List Int) (p3 : Option Addr) (c4 : Nat) (h5 : rdS encI w x1 p3 c4) (x6 : List Balloon) (p8 : Option Addr) (c9 : Nat) (h10 : rdD deepBalloon w x6 p8 c9) {r : Bool} (hm : M.l_FnExactAreBalloons x1 x6 = some r) :
    Calls Try.prog 3 #[.slice p3 x1.length c4, .slice p8 x6.length c9] w fun e w' => e = .returned (.bool r) ∧ Mem [] w w' [] := by
  unfold M.l_FnExactAreBalloons at hm
  refine C_enter Try.func3 rfl (by kernel_rfl) ?_
  have M0 := Mem.refl [] w
  refine G_seq ?_
  refine G_region ?_
  refine W_run 1 [(0, .slice p3 x1.length c4), (1, .slice p8 x6.length c9)] w (by kernel_rfl) ?_
  refine W_nil ?_
  refine N_then ?_
  refine G_seq ?_
  refine G_seq ?_
  refine G_region ?_
  refine W_run 3 [(0, .slice p3 x1.length c4), (1, .slice p8 x6.length c9), (12, .bool (decide ((x1.length : Int) > 1048576)))] w (by kernel_rfl) ?_
  refine W_nil ?_
  refine N_then ?_
  rcases gx_bif hm with ⟨hc11, hm⟩ | ⟨hc11, hm⟩
  · refine G_cond_t (b := (decide ((x1.length : Int) > 1048576))) hc11 (by kernel_rfl) ?_
    refine G_seq ?_
    refine G_region ?_
    refine W_run 1 [(4, .bool true)] w (by kernel_rfl) ?_
    refine W_nil ?_
    refine N_then ?_
    refine G_ret ?_
    refine N_then_ret ?_
    obtain rfl := Option.some.inj hm
    refine N_ret [.bool true] (RVs_cons (RV_tmp (by kernel_rfl)) RVs_nil) ?_
    exact ⟨rfl, M0.pick [] (by kernel_rfl)⟩
  · refine G_cond_f (b := (decide ((x1.length : Int) > 1048576))) hc11 (by kernel_rfl) ?_
    refine G_skip ?_
    refine N_then ?_
    refine G_seq ?_
    refine G_region ?_
    refine W_run 1 [(0, .slice p3 x1.length c4), (1, .slice p8 x6.length c9), (5, .int .i64 1048576)] w (by kernel_rfl) ?_
    refine W_nil ?_
    refine N_then ?_
    refine G_seq ?_
    refine G_region ?_
    refine W_run 2 [(0, .slice p3 x1.length c4), (1, .slice p8 x6.length c9), (5, .int .i64 1048576), (13, .slice p8 x6.length c9), (14, .int .i64 1048576)] w (by kernel_rfl) ?_
    obtain ⟨r98, hr98, hm⟩ := gx_bind hm
    refine W_call 13 #[.slice p8 x6.length c9, .int .i64 1048576] (by kernel_rfl) (by kernel_rfl) ?_
    refine (c_l_szBalloonS w x6 p8 c9 (h10.mem0 M0) 1048576 hr98).mono ?_
    rintro e_ w99 ⟨rfl, K100⟩
    have M101 := M0.call0 K100
    refine ⟨_, rfl, ?_⟩
    refine W_run 1 [(0, .slice p3 x1.length c4), (1, .slice p8 x6.length c9), (5, .int .i64 r98)] w99 (by kernel_rfl) ?_
    refine W_nil ?_
    refine N_then ?_
    refine G_seq ?_
    refine G_seq ?_
    refine G_region ?_
    refine W_run 2 [(0, .slice p3 x1.length c4), (1, .slice p8 x6.length c9), (17, .bool (decide (r98 < 0)))] w99 (by kernel_rfl) ?_
    refine W_nil ?_
    refine N_then ?_
    rcases gx_bif hm with ⟨hc102, hm⟩ | ⟨hc102, hm⟩
    · refine G_cond_t (b := (decide (r98 < 0))) hc102 (by kernel_rfl) ?_
      refine G_seq ?_
      refine G_region ?_
      refine W_run 1 [(4, .bool true)] w99 (by kernel_rfl) ?_
      refine W_nil ?_
      refine N_then ?_
      refine G_ret ?_
      refine N_then_ret ?_
      obtain rfl := Option.some.inj hm
      refine N_ret [.bool true] (RVs_cons (RV_tmp (by kernel_rfl)) RVs_nil) ?_
      exact ⟨rfl, M101.pick [] (by kernel_rfl)⟩
    · refine G_cond_f (b := (decide (r98 < 0))) hc102 (by kernel_rfl) ?_
      refine G_skip ?_
      refine N_then ?_
      refine G_seq ?_
      refine G_region ?_
      refine W_run 1 [(0, .slice p3 x1.length c4), (1, .slice p8 x6.length c9), (18, .slice p3 x1.length c4)] w99 (by kernel_rfl) ?_
      obtain ⟨r163, hr163, hm⟩ := gx_bind hm
      refine W_call 15 #[.slice p3 x1.length c4] (by kernel_rfl) (by kernel_rfl) ?_
      refine (c_l_toIntS w99 x1 p3 c4 (h5.mem0 M101) hr163).mono ?_
      rintro e_ w169 ⟨p165, c166, sg167, rfl, ho168, K170⟩
      have M171 := M101.call K170
      refine ⟨_, rfl, ?_⟩
      refine W_run 1 [(0, .slice p3 x1.length c4), (1, .slice p8 x6.length c9), (19, .slice p165 r163.length c166), (20, .slice p8 x6.length c9)] w169 (by kernel_rfl) ?_
      obtain ⟨r378, hr378, hm⟩ := gx_bind hm
      refine W_call 16 #[.slice p8 x6.length c9] (by kernel_rfl) (by kernel_rfl) ?_
      refine (c_l_toBalloonS w169 x6 p8 c9 (h10.mem0 M171) hr378).mono ?_
      rintro e_ w385 ⟨p380, c381, sg382, sg383, rfl, ho384, K386⟩
      have M387 := M171.call K386
      refine ⟨_, rfl, ?_⟩
      obtain ⟨r1245, hr1245, hm⟩ := gx_bind hm
      refine W_call 14 #[.slice p165 r163.length c166, .slice p380 r378.length c381] (by kernel_rfl) (by kernel_rfl) ?_
      refine (c_s_AreBalloons w385 r163 p165 c166 (ho168.rd M387 0 (by kernel_rfl)) r378 p380 c381 (ho384.rd M387 1 (by kernel_rfl) 2 (by kernel_rfl)) hr1245).mono ?_
      rintro e_ w1246 ⟨rfl, K1247⟩
      have M1248 := M387.call0 K1247
      refine ⟨_, rfl, ?_⟩
      refine W_run 1 [(0, .slice p3 x1.length c4), (1, .slice p8 x6.length c9), (6, .bool r1245)] w1246 (by kernel_rfl) ?_
      refine W_nil ?_
      refine N_then ?_
      refine G_seq ?_
      refine G_region ?_
      refine W_run 1 [(0, .slice p3 x1.length c4), (1, .slice p8 x6.length c9), (6, .bool r1245), (23, .slice p3 x1.length c4)] w1246 (by kernel_rfl) ?_
      obtain ⟨r1249, hr1249, hm⟩ := gx_bind hm
      refine W_call 15 #[.slice p3 x1.length c4] (by kernel_rfl) (by kernel_rfl) ?_
      refine (c_l_toIntS w1246 x1 p3 c4 (h5.mem0 M1248) hr1249).mono ?_
      rintro e_ w1255 ⟨p1251, c1252, sg1253, rfl, ho1254, K1256⟩
      have M1257 := M1248.call K1256
      refine ⟨_, rfl, ?_⟩
      refine W_run 1 [(0, .slice p3 x1.length c4), (1, .slice p8 x6.length c9), (6, .bool r1245), (7, .slice p1251 r1249.length c1252)] w1255 (by kernel_rfl) ?_
      refine W_nil ?_
      refine N_then ?_
      refine G_seq ?_
      refine G_region ?_
      refine W_run 1 [(0, .slice p3 x1.length c4), (1, .slice p8 x6.length c9), (6, .bool r1245), (7, .slice p1251 r1249.length c1252), (25, .slice p8 x6.length c9)] w1255 (by kernel_rfl) ?_
      obtain ⟨r1258, hr1258, hm⟩ := gx_bind hm
      refine W_call 16 #[.slice p8 x6.length c9] (by kernel_rfl) (by kernel_rfl) ?_
      refine (c_l_toBalloonS w1255 x6 p8 c9 (h10.mem0 M1257) hr1258).mono ?_
      rintro e_ w1265 ⟨p1260, c1261, sg1262, sg1263, rfl, ho1264, K1266⟩
      have M1267 := M1257.call K1266
      refine ⟨_, rfl, ?_⟩
      refine W_run 1 [(0, .slice p3 x1.length c4), (1, .slice p8 x6.length c9), (6, .bool r1245), (7, .slice p1251 r1249.length c1252), (8, .slice p1260 r1258.length c1261)] w1265 (by kernel_rfl) ?_
      refine W_nil ?_
      refine N_then ?_
      refine G_seq ?_
      refine G_region ?_
      refine W_run 2 [(0, .slice p3 x1.length c4), (1, .slice p8 x6.length c9), (6, .bool r1245), (7, .slice p1251 r1249.length c1252), (8, .slice p1260 r1258.length c1261), (27, .slice p1251 r1249.length c1252), (28, .slice p1260 r1258.length c1261)] w1265 (by kernel_rfl) ?_
      obtain ⟨r2231, hr2231, hm⟩ := gx_bind hm
      refine W_call 17 #[.slice p1251 r1249.length c1252, .slice p1260 r1258.length c1261] (by kernel_rfl) (by kernel_rfl) ?_
      refine (c_i_AreBalloons w1265 r1249 p1251 c1252 (ho1254.rd M1267 3 (by kernel_rfl)) r1258 p1260 c1261 (ho1264.rd M1267 4 (by kernel_rfl) 5 (by kernel_rfl)) hr2231).mono ?_
      rintro e_ w2232 ⟨rfl, K2233⟩
      have M2234 := M1267.call0 K2233
      refine ⟨_, rfl, ?_⟩
      refine W_run 1 [(0, .slice p3 x1.length c4), (1, .slice p8 x6.length c9), (6, .bool r1245), (7, .slice p1251 r1249.length c1252), (8, .slice p1260 r1258.length c1261), (9, .bool r2231)] w2232 (by kernel_rfl) ?_
      refine W_nil ?_
      refine N_then ?_
      refine G_seq ?_
      refine G_seq ?_
      refine G_region ?_
      refine W_run 3 [(0, .slice p3 x1.length c4), (1, .slice p8 x6.length c9), (7, .slice p1251 r1249.length c1252), (8, .slice p1260 r1258.length c1261), (32, .bool (!(r2231 == r1245)))] w2232 (by kernel_rfl) ?_
      refine W_nil ?_
      refine N_then ?_
      rcases gx_bif hm with ⟨hc2235, hm⟩ | ⟨hc2235, hm⟩
      · refine G_cond_t (b := (!(r2231 == r1245))) hc2235 (by kernel_rfl) ?_
        refine G_seq ?_
        refine G_region ?_
        refine W_run 1 [(4, .bool false)] w2232 (by kernel_rfl) ?_
        refine W_nil ?_
        refine N_then ?_
        refine G_ret ?_
        refine N_then_ret ?_
        obtain rfl := Option.some.inj hm
        refine N_ret [.bool false] (RVs_cons (RV_tmp (by kernel_rfl)) RVs_nil) ?_
        exact ⟨rfl, M2234.pick [] (by kernel_rfl)⟩
      · refine G_cond_f (b := (!(r2231 == r1245))) hc2235 (by kernel_rfl) ?_
        refine G_skip ?_
        refine N_then ?_
        refine G_seq ?_
        refine G_seq ?_
        refine G_region ?_
        refine W_run 2 [(1, .slice p8 x6.length c9), (8, .slice p1260 r1258.length c1261), (33, .slice p1251 r1249.length c1252), (34, .slice p3 x1.length c4)] w2232 (by kernel_rfl) ?_
        obtain ⟨r2236, hr2236, hm⟩ := gx_bind hm
        refine W_call 15 #[.slice p3 x1.length c4] (by kernel_rfl) (by kernel_rfl) ?_
        refine (c_l_toIntS w2232 x1 p3 c4 (h5.mem0 M2234) hr2236).mono ?_
        rintro e_ w2242 ⟨p2238, c2239, sg2240, rfl, ho2241, K2243⟩
        have M2244 := M2234.call K2243
        refine ⟨_, rfl, ?_⟩
        obtain ⟨r2289, hr2289, hm⟩ := gx_bind hm
        refine W_call 18 #[.slice p1251 r1249.length c1252, .slice p2238 r2236.length c2239] (by kernel_rfl) (by kernel_rfl) ?_
        refine (c_l_eqIntS w2242 r1249 p1251 c1252 (ho1254.rd M2244 3 (by kernel_rfl)) r2236 p2238 c2239 (ho2241.rd M2244 6 (by kernel_rfl)) hr2289).mono ?_
        rintro e_ w2290 ⟨rfl, K2291⟩
        have M2292 := M2244.call0 K2291
        refine ⟨_, rfl, ?_⟩
        refine W_run 1 [(1, .slice p8 x6.length c9), (8, .slice p1260 r1258.length c1261), (37, .bool (!r2289))] w2290 (by kernel_rfl) ?_
        refine W_nil ?_
        refine N_then ?_
        rcases gx_bif hm with ⟨hc2293, hm⟩ | ⟨hc2293, hm⟩
        · refine G_cond_t (b := (!r2289)) hc2293 (by kernel_rfl) ?_
          refine G_seq ?_
          refine G_region ?_
          refine W_run 1 [(4, .bool false)] w2290 (by kernel_rfl) ?_
          refine W_nil ?_
          refine N_then ?_
          refine G_ret ?_
          refine N_then_ret ?_
          obtain rfl := Option.some.inj hm
          refine N_ret [.bool false] (RVs_cons (RV_tmp (by kernel_rfl)) RVs_nil) ?_
          exact ⟨rfl, M2292.pick [] (by kernel_rfl)⟩
        · refine G_cond_f (b := (!r2289)) hc2293 (by kernel_rfl) ?_
          refine G_skip ?_
          refine N_then ?_
          refine G_seq ?_
          refine G_seq ?_
          refine G_region ?_
          refine W_run 2 [(38, .slice p1260 r1258.length c1261), (39, .slice p8 x6.length c9)] w2290 (by kernel_rfl) ?_
          obtain ⟨r2294, hr2294, hm⟩ := gx_bind hm
          refine W_call 16 #[.slice p8 x6.length c9] (by kernel_rfl) (by kernel_rfl) ?_
          refine (c_l_toBalloonS w2290 x6 p8 c9 (h10.mem0 M2292) hr2294).mono ?_
          rintro e_ w2301 ⟨p2296, c2297, sg2298, sg2299, rfl, ho2300, K2302⟩
          have M2303 := M2292.call K2302
          refine ⟨_, rfl, ?_⟩
          obtain ⟨r2427, hr2427, hm⟩ := gx_bind hm
          refine W_call 19 #[.slice p1260 r1258.length c1261, .slice p2296 r2294.length c2297] (by kernel_rfl) (by kernel_rfl) ?_
          refine (c_l_eqBalloonS w2301 r1258 p1260 c1261 (ho1264.rd M2303 4 (by kernel_rfl) 5 (by kernel_rfl)) r2294 p2296 c2297 (ho2300.rd M2303 7 (by kernel_rfl) 8 (by kernel_rfl)) hr2427).mono ?_
          rintro e_ w2428 ⟨rfl, K2429⟩
          have M2430 := M2303.call0 K2429
          refine ⟨_, rfl, ?_⟩
          refine W_run 1 [(42, .bool (!r2427))] w2428 (by kernel_rfl) ?_
          refine W_nil ?_
          refine N_then ?_
          rcases gx_bif hm with ⟨hc2431, hm⟩ | ⟨hc2431, hm⟩
          · refine G_cond_t (b := (!r2427)) hc2431 (by kernel_rfl) ?_
            refine G_seq ?_
            refine G_region ?_
            refine W_run 1 [(4, .bool false)] w2428 (by kernel_rfl) ?_
            refine W_nil ?_
            refine N_then ?_
            refine G_ret ?_
            refine N_then_ret ?_
            obtain rfl := Option.some.inj hm
            refine N_ret [.bool false] (RVs_cons (RV_tmp (by kernel_rfl)) RVs_nil) ?_
            exact ⟨rfl, M2430.pick [] (by kernel_rfl)⟩
          · refine G_cond_f (b := (!r2427)) hc2431 (by kernel_rfl) ?_
            refine G_skip ?_
            refine N_then ?_
            refine G_seq ?_
            refine G_region ?_
            refine W_run 1 [(4, .bool true)] w2428 (by kernel_rfl) ?_
            refine W_nil ?_
            refine N_then ?_
            refine G_ret ?_
            obtain rfl := Option.some.inj hm
            refine N_ret [.bool true] (RVs_cons (RV_tmp (by kernel_rfl)) RVs_nil) ?_
            exact ⟨rfl, M2430.pick [] (by kernel_rfl)⟩
theorem c_s_l1Most (w : World) (x2499 : Int) (x2500 : Int) {r : Int} (hm : M.s_l1Most x2499 x2500 = some r) :
    Calls Try.prog 55 #[.int .i64 x2499, .int .i64 x2500] w fun e w' => e = .returned (.int .i64 r) ∧ Mem [] w w' [] := by
  unfold M.s_l1Most at hm
  refine C_enter Try.func55 rfl (by kernel_rfl) ?_
  have M0 := Mem.refl [] w
  refine G_seq ?_
  refine G_region ?_
  refine W_run 1 [(0, .int .i64 x2499), (1, .int .i64 x2500)] w (by kernel_rfl) ?_
  refine W_nil ?_
  refine N_then ?_
  refine G_seq ?_
  refine G_seq ?_
  refine G_region ?_
  refine W_run 3 [(0, .int .i64 x2499), (1, .int .i64 x2500), (7, .bool (decide (x2499 > x2500)))] w (by kernel_rfl) ?_
  refine W_nil ?_
  refine N_then ?_
  rcases gx_bif hm with ⟨hc2501, hm⟩ | ⟨hc2501, hm⟩
  · refine G_cond_t (b := (decide (x2499 > x2500))) hc2501 (by kernel_rfl) ?_
    refine G_seq ?_
    refine G_region ?_
    refine W_run 2 [(4, .int .i64 x2499)] w (by kernel_rfl) ?_
    refine W_nil ?_
    refine N_then ?_
    refine G_ret ?_
    refine N_then_ret ?_
    obtain rfl := Option.some.inj hm
    refine N_ret [.int .i64 x2499] (RVs_cons (RV_tmp (by kernel_rfl)) RVs_nil) ?_
    exact ⟨rfl, M0.pick [] (by kernel_rfl)⟩
  · refine G_cond_f (b := (decide (x2499 > x2500))) hc2501 (by kernel_rfl) ?_
    refine G_skip ?_
    refine N_then ?_
    refine G_seq ?_
    refine G_region ?_
    refine W_run 2 [(4, .int .i64 x2500)] w (by kernel_rfl) ?_
    refine W_nil ?_
    refine N_then ?_
    refine G_ret ?_
    obtain rfl := Option.some.inj hm
    refine N_ret [.int .i64 x2500] (RVs_cons (RV_tmp (by kernel_rfl)) RVs_nil) ?_
    exact ⟨rfl, M0.pick [] (by kernel_rfl)⟩
theorem c_s_GivenFrames (w : World) (x2467 : List Int) (p2469 : Option Addr) (c2470 : Nat) (h2471 : rdS encI w x2467 p2469 c2470) (x2472 : List Balloon) (p2474 : Option Addr) (c2475 : Nat) (h2476 : rdD deepBalloon w x2472 p2474 c2475) {r : Int × Int × Bool} (hm : M.s_GivenFrames x2467 x2472 = some r) :
    Calls Try.prog 20 #[.slice p2469 x2467.length c2470, .slice p2474 x2472.length c2475] w fun e w' => e = .returned (.tuple #[.int .i64 r.1, .int .i64 r.2.1, .bool r.2.2]) ∧ Mem [] w w' [] := by
  unfold M.s_GivenFrames at hm
  refine C_enter Try.func20 rfl (by kernel_rfl) ?_
  have M0 := Mem.refl [] w
  refine G_seq ?_
  refine G_region ?_
  refine W_run 3 [(0, .slice p2469 x2467.length c2470), (1, .slice p2474 x2472.length c2475)] w (by kernel_rfl) ?_
  refine W_nil ?_
  refine N_then ?_
  refine G_seq ?_
  refine G_seq ?_
  refine G_region ?_
  refine W_run 2 [(1, .slice p2474 x2472.length c2475), (10, .slice p2469 x2467.length c2470), (11, .slice p2474 x2472.length c2475)] w (by kernel_rfl) ?_
  obtain ⟨r2477, hr2477, hm⟩ := gx_bind hm
  refine W_call 47 #[.slice p2469 x2467.length c2470, .slice p2474 x2472.length c2475] (by kernel_rfl) (by kernel_rfl) ?_
  refine (c_s_l18Good w x2467 p2469 c2470 (h2471.mem0 M0) x2472 p2474 c2475 (h2476.mem0 M0) hr2477).mono ?_
  rintro e_ w2478 ⟨rfl, K2479⟩
  have M2480 := M0.call0 K2479
  refine ⟨_, rfl, ?_⟩
  refine W_run 1 [(1, .slice p2474 x2472.length c2475), (13, .bool (!r2477))] w2478 (by kernel_rfl) ?_
  refine W_nil ?_
  refine N_then ?_
  rcases gx_bif hm with ⟨hc2481, hm⟩ | ⟨hc2481, hm⟩
  · refine G_cond_t (b := (!r2477)) hc2481 (by kernel_rfl) ?_
    refine G_seq ?_
    refine G_region ?_
    refine W_run 3 [(4, .int .i64 0), (5, .int .i64 0), (6, .bool false)] w2478 (by kernel_rfl) ?_
    refine W_nil ?_
    refine N_then ?_
    refine G_ret ?_
    refine N_then_ret ?_
    obtain rfl := Option.some.inj hm
    refine N_ret [.int .i64 0, .int .i64 0, .bool false] (RVs_cons (RV_tmp (by kernel_rfl)) (RVs_cons (RV_tmp (by kernel_rfl)) (RVs_cons (RV_tmp (by kernel_rfl)) RVs_nil))) ?_
    exact ⟨rfl, M2480.pick [] (by kernel_rfl)⟩
  · refine G_cond_f (b := (!r2477)) hc2481 (by kernel_rfl) ?_
    refine G_skip ?_
    refine N_then ?_
    refine G_seq ?_
    refine G_region ?_
    refine W_run 2 [(1, .slice p2474 x2472.length c2475), (7, .int .i64 0), (8, .int .i64 0)] w2478 (by kernel_rfl) ?_
    refine W_nil ?_
    refine N_then ?_
    refine G_seq ?_
    refine G_seq ?_
    refine G_region ?_
    refine W_run 1 [(1, .slice p2474 x2472.length c2475), (7, .int .i64 0), (8, .int .i64 0), (9, .int .i64 0)] w2478 (by kernel_rfl) ?_
    refine W_nil ?_
    refine N_then ?_
    obtain ⟨out2538, hw2539, hmo2540⟩ := gx_bind hm
    refine G_meet (fun a w' => Mem [] w w' [] ∧ Sat Try.f20.ntmps [(7, .int .i64 out2538.1), (8, .int .i64 out2538.2)] a) ?_ ?_
    · refine G_block ?_
      refine G_while (σ := Int × Int × Int) (ρ := Int × Int) (fun s2531 a w' => Mem [] w w' [] ∧ Sat Try.f20.ntmps [(1, .slice p2474 x2472.length c2475), (7, .int .i64 s2531.1), (8, .int .i64 s2531.2.1), (9, .int .i64 s2531.2.2)] a) hw2539 (fun a ha => ⟨M2480.pick [] (by kernel_rfl), ha.sub (by kernel_rfl)⟩) ?_
      clear hm
      intro s2531 x2532 hm hout2533 a2534 w2535 ⟨M2536, hS2537⟩
      refine G_use hS2537 ?_
      refine G_seq ?_
      refine G_seq ?_
      refine G_region ?_
      refine W_run 4 [(1, .slice p2474 x2472.length c2475), (7, .int .i64 s2531.1), (8, .int .i64 s2531.2.1), (9, .int .i64 s2531.2.2), (17, .bool (decide (s2531.2.2 < (x2472.length : Int))))] w2535 (by kernel_rfl) ?_
      refine W_nil ?_
      refine N_then ?_
      rcases gx_bif hm with ⟨hc2542, hm⟩ | ⟨hc2542, hm⟩
      · refine G_cond_t (b := (decide (s2531.2.2 < (x2472.length : Int)))) hc2542 (by kernel_rfl) ?_
        refine G_skip ?_
        refine N_then ?_
        refine G_seq ?_
        refine G_block ?_
        refine G_seq ?_
        refine G_region ?_
        refine W_run 3 [(1, .slice p2474 x2472.length c2475), (7, .int .i64 s2531.1), (8, .int .i64 s2531.2.1), (9, .int .i64 s2531.2.2), (20, .int .i64 s2531.1), (21, .slice p2474 x2472.length c2475), (22, .int .i64 s2531.2.2)] w2535 (by kernel_rfl) ?_
        obtain ⟨y2543, hy2543, hm⟩ := gx_bind hm
        obtain ⟨zs2544, hz2545, hr2546, hi2547⟩ := id h2476
        obtain ⟨g2548, hg2549⟩ := gxIdx_fst hz2545 hy2543
        refine W_val (elemP p2474 (s2531.2.2.toNat * 3)) w2535 (by kernel_rfl) (E_index (E := deepBalloon.E) _ _ _ x2472.length c2475 .i64 s2531.2.2 3 (y := (y2543, g2548)) rfl (by kernel_rfl) (by kernel_rfl) (by kernel_rfl) (hr2546.mem0 M2536) (len_fst hz2545) hg2549) ?_
        refine W_val (elemP p2474 (s2531.2.2.toNat * 3 + 2)) w2535 (by kernel_rfl) (E_fieldE (E := deepBalloon.E) _ _ 2 (s2531.2.2.toNat * 3) 2 rfl (by kernel_rfl) (by kernel_rfl) (hr2546.mem0 M2536) hg2549) ?_
        refine W_val (.slice ((g2548 0).1) y2543.Gave.length ((g2548 0).2)) w2535 (by kernel_rfl) (E_loadE (E := deepBalloon.E) _ _ false 1 s2531.2.2 2 (s2531.2.2.toNat * 3 + 2) (y2543, g2548) (.slice ((g2548 0).1) y2543.Gave.length ((g2548 0).2)) rfl (by kernel_rfl) (by kernel_rfl) (by kernel_rfl) (hr2546.mem0 M2536) hg2549 rfl) ?_
        refine W_run 3 [(1, .slice p2474 x2472.length c2475), (7, .int .i64 (w64 (s2531.1 + (y2543.Gave.length : Int)))), (8, .int .i64 s2531.2.1), (9, .int .i64 s2531.2.2)] w2535 (by kernel_rfl) ?_
        refine W_nil ?_
        refine N_then ?_
        refine G_quiet (by kernel_rfl) (by kernel_rfl) M2536 ?_
        refine Z_runs [.int .i64 s2531.2.1, .slice p2474 x2472.length c2475, .int .i64 s2531.2.2] [(1, .slice p2474 x2472.length c2475), (7, .int .i64 (w64 (s2531.1 + (y2543.Gave.length : Int)))), (8, .int .i64 s2531.2.1), (9, .int .i64 s2531.2.2), (28, .int .i64 s2531.2.1), (29, .slice p2474 x2472.length c2475), (30, .int .i64 s2531.2.2)] (fun w_ => by kernel_rfl) (by kernel_rfl) ?_
        obtain ⟨y2551, hy2551, hm⟩ := gx_bind hm
        obtain ⟨g2552, hg2553⟩ := gxIdx_fst hz2545 hy2551
        refine Z_val (elemP p2474 (s2531.2.2.toNat * 3)) (by kernel_rfl) (fun w_ M_ => (E_index (E := deepBalloon.E) _ _ _ x2472.length c2475 .i64 s2531.2.2 3 (y := (y2551, g2552)) rfl (by kernel_rfl) (by kernel_rfl) (by kernel_rfl) (hr2546.mem0 M_) (len_fst hz2545) hg2553)) ?_
        refine Z_val (elemP p2474 (s2531.2.2.toNat * 3 + 1)) (by kernel_rfl) (fun w_ M_ => (E_fieldE (E := deepBalloon.E) _ _ 1 (s2531.2.2.toNat * 3) 1 rfl (by kernel_rfl) (by kernel_rfl) (hr2546.mem0 M_) hg2553)) ?_
        refine Z_val (.int .i64 y2551.Goal) (by kernel_rfl) (fun w_ M_ => (E_loadE (E := deepBalloon.E) _ _ false 1 s2531.2.2 1 (s2531.2.2.toNat * 3 + 1) (y2551, g2552) (.int .i64 y2551.Goal) rfl (by kernel_rfl) (by kernel_rfl) (by kernel_rfl) (hr2546.mem0 M_) hg2553 rfl)) ?_
        refine Z_runs [.slice p2474 x2472.length c2475, .int .i64 s2531.2.2] [(1, .slice p2474 x2472.length c2475), (7, .int .i64 (w64 (s2531.1 + (y2543.Gave.length : Int)))), (8, .int .i64 s2531.2.1), (9, .int .i64 s2531.2.2), (28, .int .i64 s2531.2.1), (33, .int .i64 y2551.Goal), (34, .slice p2474 x2472.length c2475), (35, .int .i64 s2531.2.2)] (fun w_ => by kernel_rfl) (by kernel_rfl) ?_
        obtain ⟨y2555, hy2555, hm⟩ := gx_bind hm
        obtain ⟨g2556, hg2557⟩ := gxIdx_fst hz2545 hy2555
        refine Z_val (elemP p2474 (s2531.2.2.toNat * 3)) (by kernel_rfl) (fun w_ M_ => (E_index (E := deepBalloon.E) _ _ _ x2472.length c2475 .i64 s2531.2.2 3 (y := (y2555, g2556)) rfl (by kernel_rfl) (by kernel_rfl) (by kernel_rfl) (hr2546.mem0 M_) (len_fst hz2545) hg2557)) ?_
        refine Z_val (elemP p2474 (s2531.2.2.toNat * 3 + 2)) (by kernel_rfl) (fun w_ M_ => (E_fieldE (E := deepBalloon.E) _ _ 2 (s2531.2.2.toNat * 3) 2 rfl (by kernel_rfl) (by kernel_rfl) (hr2546.mem0 M_) hg2557)) ?_
        refine Z_val (.slice ((g2556 0).1) y2555.Gave.length ((g2556 0).2)) (by kernel_rfl) (fun w_ M_ => (E_loadE (E := deepBalloon.E) _ _ false 1 s2531.2.2 2 (s2531.2.2.toNat * 3 + 2) (y2555, g2556) (.slice ((g2556 0).1) y2555.Gave.length ((g2556 0).2)) rfl (by kernel_rfl) (by kernel_rfl) (by kernel_rfl) (hr2546.mem0 M_) hg2557 rfl)) ?_
        refine Z_runs [.int .i64 (y2555.Gave.length : Int), .int .i64 (w64 (y2551.Goal - (y2555.Gave.length : Int)))] [(1, .slice p2474 x2472.length c2475), (7, .int .i64 (w64 (s2531.1 + (y2543.Gave.length : Int)))), (8, .int .i64 s2531.2.1), (9, .int .i64 s2531.2.2), (28, .int .i64 s2531.2.1), (40, .int .i64 (w64 (y2551.Goal - (y2555.Gave.length : Int))))] (fun w_ => by kernel_rfl) (by kernel_rfl) ?_
        obtain ⟨r2559, hr2559, hm⟩ := gx_bind hm
        refine Z_call 55 #[.int .i64 0, .int .i64 (w64 (y2551.Goal - (y2555.Gave.length : Int)))] (.int .i64 r2559) (by kernel_rfl) (fun w_ => by kernel_rfl) (fun w_ M_ => (c_s_l1Most w_ 0 (w64 (y2551.Goal - (y2555.Gave.length : Int))) hr2559).mono fun e w2_ h_ => ⟨h_.1, M_.call0 h_.2⟩) ?_
        refine Z_runs [.int .i64 (w64 (s2531.2.1 + r2559)), .int .i64 (w64 (s2531.2.1 + r2559))] [(1, .slice p2474 x2472.length c2475), (7, .int .i64 (w64 (s2531.1 + (y2543.Gave.length : Int)))), (8, .int .i64 (w64 (s2531.2.1 + r2559))), (9, .int .i64 s2531.2.2)] (fun w_ => by kernel_rfl) (by kernel_rfl) ?_
        refine Z_end fun w2563 M2564 => ?_
        refine N_block ?_
        refine N_then ?_
        refine G_region ?_
        refine W_run 3 [(1, .slice p2474 x2472.length c2475), (7, .int .i64 (w64 (s2531.1 + (y2543.Gave.length : Int)))), (8, .int .i64 (w64 (s2531.2.1 + r2559))), (9, .int .i64 (w64 (s2531.2.2 + 1)))] w2563 (by kernel_rfl) ?_
        refine W_nil ?_
        obtain rfl := Option.some.inj hm
        exact N_loop fun a ha => ⟨_, rfl, M2564.pick [] (by kernel_rfl), ha.sub (by kernel_rfl)⟩
      · refine G_cond_f (b := (decide (s2531.2.2 < (x2472.length : Int)))) hc2542 (by kernel_rfl) ?_
        refine G_exit ?_
        refine N_then_exit ?_
        refine N_then_exit ?_
        refine N_block_eq ?_
        obtain rfl := Option.some.inj hm
        obtain rfl := hout2533 _ rfl
        exact N_meet fun a ha => ⟨M2536.pick [] (by kernel_rfl), ha.sub (by kernel_rfl)⟩
    · intro a2565 w2566 ⟨M2567, hS2568⟩
      refine N_use hS2568 ?_
      have hm := hmo2540
      refine N_then ?_
      refine G_seq ?_
      refine G_region ?_
      refine W_run 5 [(4, .int .i64 out2538.1), (5, .int .i64 out2538.2), (6, .bool true)] w2566 (by kernel_rfl) ?_
      refine W_nil ?_
      refine N_then ?_
      refine G_ret ?_
      obtain rfl := Option.some.inj hm
      refine N_ret [.int .i64 out2538.1, .int .i64 out2538.2, .bool true] (RVs_cons (RV_tmp (by kernel_rfl)) (RVs_cons (RV_tmp (by kernel_rfl)) (RVs_cons (RV_tmp (by kernel_rfl)) RVs_nil))) ?_
      exact ⟨rfl, M2567.pick [] (by kernel_rfl)⟩
theorem c_i_GivenFrames (w : World) (x2592 : List Int) (p2594 : Option Addr) (c2595 : Nat) (h2596 : rdS encI w x2592 p2594 c2595) (x2597 : List Balloon) (p2599 : Option Addr) (c2600 : Nat) (h2601 : rdD deepBalloon w x2597 p2599 c2600) {r : Int × Int × Bool} (hm : M.i_GivenFrames x2592 x2597 = some r) :
    Calls Try.prog 21 #[.slice p2594 x2592.length c2595, .slice p2599 x2597.length c2600] w fun e w' => e = .returned (.tuple #[.int .i64 r.1, .int .i64 r.2.1, .bool r.2.2]) ∧ Mem [] w w' [] := by
  unfold M.i_GivenFrames at hm
  refine C_enter Try.func21 rfl (by kernel_rfl) ?_
  have M0 := Mem.refl [] w
  refine G_seq ?_
  refine G_region ?_
  refine W_run 3 [(0, .slice p2594 x2592.length c2595), (1, .slice p2599 x2597.length c2600)] w (by kernel_rfl) ?_
  refine W_nil ?_
  refine N_then ?_
  refine G_seq ?_
  refine G_seq ?_
  refine G_region ?_
  refine W_run 2 [(1, .slice p2599 x2597.length c2600), (11, .slice p2594 x2592.length c2595), (12, .slice p2599 x2597.length c2600)] w (by kernel_rfl) ?_
  obtain ⟨r2602, hr2602, hm⟩ := gx_bind hm
  refine W_call 17 #[.slice p2594 x2592.length c2595, .slice p2599 x2597.length c2600] (by kernel_rfl) (by kernel_rfl) ?_
  refine (c_i_AreBalloons w x2592 p2594 c2595 (h2596.mem0 M0) x2597 p2599 c2600 (h2601.mem0 M0) hr2602).mono ?_
  rintro e_ w2603 ⟨rfl, K2604⟩
  have M2605 := M0.call0 K2604
  refine ⟨_, rfl, ?_⟩
  refine W_run 1 [(1, .slice p2599 x2597.length c2600), (14, .bool (!r2602))] w2603 (by kernel_rfl) ?_
  refine W_nil ?_
  refine N_then ?_
  rcases gx_bif hm with ⟨hc2606, hm⟩ | ⟨hc2606, hm⟩
  · refine G_cond_t (b := (!r2602)) hc2606 (by kernel_rfl) ?_
    refine G_seq ?_
    refine G_region ?_
    refine W_run 3 [(4, .int .i64 0), (5, .int .i64 0), (6, .bool false)] w2603 (by kernel_rfl) ?_
    refine W_nil ?_
    refine N_then ?_
    refine G_ret ?_
    refine N_then_ret ?_
    obtain rfl := Option.some.inj hm
    refine N_ret [.int .i64 0, .int .i64 0, .bool false] (RVs_cons (RV_tmp (by kernel_rfl)) (RVs_cons (RV_tmp (by kernel_rfl)) (RVs_cons (RV_tmp (by kernel_rfl)) RVs_nil))) ?_
    exact ⟨rfl, M2605.pick [] (by kernel_rfl)⟩
  · refine G_cond_f (b := (!r2602)) hc2606 (by kernel_rfl) ?_
    refine G_skip ?_
    refine N_then ?_
    refine G_seq ?_
    refine G_region ?_
    refine W_run 2 [(1, .slice p2599 x2597.length c2600), (7, .int .i64 0), (8, .int .i64 0)] w2603 (by kernel_rfl) ?_
    refine W_nil ?_
    refine N_then ?_
    refine G_seq ?_
    refine G_seq ?_
    refine G_region ?_
    refine W_run 3 [(7, .int .i64 0), (8, .int .i64 0), (15, .slice p2599 x2597.length c2600), (16, .int .i64 (x2597.length : Int)), (17, .int .i64 0)] w2603 (by kernel_rfl) ?_
    refine W_nil ?_
    refine N_then ?_
    obtain ⟨out2646, hw2647, hmo2648⟩ := gx_bind hm
    refine G_meet (fun a w' => Mem [] w w' [] ∧ Sat Try.f21.ntmps [(7, .int .i64 out2646.1), (8, .int .i64 out2646.2)] a) ?_ ?_
    · refine G_block ?_
      refine G_while (σ := Int × Int × Int) (ρ := Int × Int) (fun s2639 a w' => Mem [] w w' [] ∧ Sat Try.f21.ntmps [(7, .int .i64 s2639.1), (8, .int .i64 s2639.2.1), (15, .slice p2599 x2597.length c2600), (16, .int .i64 (x2597.length : Int)), (17, .int .i64 s2639.2.2)] a) hw2647 (fun a ha => ⟨M2605.pick [] (by kernel_rfl), ha.sub (by kernel_rfl)⟩) ?_
      clear hm
      intro s2639 x2640 hm hout2641 a2642 w2643 ⟨M2644, hS2645⟩
      refine G_use hS2645 ?_
      refine G_seq ?_
      refine G_region ?_
      refine W_run 1 [(7, .int .i64 s2639.1), (8, .int .i64 s2639.2.1), (15, .slice p2599 x2597.length c2600), (16, .int .i64 (x2597.length : Int)), (17, .int .i64 s2639.2.2), (18, .bool (decide (s2639.2.2 < (x2597.length : Int))))] w2643 (by kernel_rfl) ?_
      refine W_nil ?_
      refine N_then ?_
      refine G_seq ?_
      rcases gx_bif hm with ⟨hc2650, hm⟩ | ⟨hc2650, hm⟩
      · refine G_cond_t (b := (decide (s2639.2.2 < (x2597.length : Int)))) hc2650 (by kernel_rfl) ?_
        refine G_skip ?_
        refine N_then ?_
        refine G_seq ?_
        refine G_block ?_
        refine G_seq ?_
        refine G_region ?_
        obtain ⟨y2651, hy2651, hm⟩ := gx_bind hm
        obtain ⟨zs2652, hz2653, hr2654, hi2655⟩ := id h2601
        obtain ⟨g2656, hg2657⟩ := gxIdx_fst hz2653 hy2651
        refine W_val (elemP p2599 (s2639.2.2.toNat * 3)) w2643 (by kernel_rfl) (E_index (E := deepBalloon.E) _ _ _ x2597.length c2600 .i64 s2639.2.2 3 (y := (y2651, g2656)) rfl (by kernel_rfl) (by kernel_rfl) (by kernel_rfl) (hr2654.mem0 M2644) (len_fst hz2653) hg2657) ?_
        refine W_val (.agg #[.int .i64 y2651.Guest, .int .i64 y2651.Goal, .slice ((g2656 0).1) y2651.Gave.length ((g2656 0).2)]) w2643 (by kernel_rfl) (E_loadE (E := deepBalloon.E) _ _ true 3 s2639.2.2 0 (s2639.2.2.toNat * 3) (y2651, g2656) (.agg #[.int .i64 y2651.Guest, .int .i64 y2651.Goal, .slice ((g2656 0).1) y2651.Gave.length ((g2656 0).2)]) rfl (by kernel_rfl) (by kernel_rfl) (by kernel_rfl) (hr2654.mem0 M2644) hg2657 rfl) ?_
        refine W_new (fun b => .pointer (some ⟨b, 0, none⟩)) (.cells ⟨[.int .i64 0, .int .i64 0, .slice none 0 0]⟩ 50 (0, 0)) M2644 rfl (by kernel_rfl) (by kernel_rfl) ?_
        intro b2661 w2662 M2663
        refine W_store _ _ _ true 3 b2661 0 [.int .i64 0, .int .i64 0, .slice none 0 0] 50 (.agg #[.int .i64 y2651.Guest, .int .i64 y2651.Goal, .slice ((g2656 0).1) y2651.Gave.length ((g2656 0).2)]) 0 [.int .i64 y2651.Guest, .int .i64 y2651.Goal, .slice ((g2656 0).1) y2651.Gave.length ((g2656 0).2)] M2663 (by kernel_rfl) rfl (by kernel_rfl) (by kernel_rfl) (by kernel_rfl) (by kernel_rfl) (by kernel_rfl) (by kernel_rfl) (by kernel_rfl) (by kernel_rfl) ?_
        intro w2664 M2665
        refine W_nil ?_
        refine N_then ?_
        refine G_seq ?_
        refine G_region ?_
        refine W_run 2 [(7, .int .i64 s2639.1), (8, .int .i64 s2639.2.1), (10, .pointer (some ⟨b2661, 0, none⟩)), (15, .slice p2599 x2597.length c2600), (16, .int .i64 (x2597.length : Int)), (17, .int .i64 s2639.2.2), (21, .int .i64 s2639.1), (22, .pointer (some ⟨b2661, 2, none⟩))] w2664 (by kernel_rfl) ?_
        refine W_val (.slice ((g2656 0).1) y2651.Gave.length ((g2656 0).2)) w2664 (by kernel_rfl) (E_load (e := 50) (fr := (0, 0)) _ _ false 1 b2661 2 [.int .i64 y2651.Guest, .int .i64 y2651.Goal, .slice ((g2656 0).1) y2651.Gave.length ((g2656 0).2)] (.slice ((g2656 0).1) y2651.Gave.length ((g2656 0).2)) rfl (by kernel_rfl) (by kernel_rfl) (by kernel_rfl) (M2665.blk 0 (b := b2661) (o := .cells ⟨[.int .i64 y2651.Guest, .int .i64 y2651.Goal, .slice ((g2656 0).1) y2651.Gave.length ((g2656 0).2)]⟩ 50 (0, 0)) (by kernel_rfl))) ?_
        refine W_run 3 [(7, .int .i64 (w64 (s2639.1 + (y2651.Gave.length : Int)))), (8, .int .i64 s2639.2.1), (10, .pointer (some ⟨b2661, 0, none⟩)), (15, .slice p2599 x2597.length c2600), (16, .int .i64 (x2597.length : Int)), (17, .int .i64 s2639.2.2)] w2664 (by kernel_rfl) ?_
        refine W_nil ?_
        refine N_then ?_
        refine G_region ?_
        refine W_run 2 [(7, .int .i64 (w64 (s2639.1 + (y2651.Gave.length : Int)))), (8, .int .i64 s2639.2.1), (10, .pointer (some ⟨b2661, 0, none⟩)), (15, .slice p2599 x2597.length c2600), (16, .int .i64 (x2597.length : Int)), (17, .int .i64 s2639.2.2), (26, .int .i64 s2639.2.1), (27, .pointer (some ⟨b2661, 1, none⟩))] w2664 (by kernel_rfl) ?_
        refine W_val (.int .i64 y2651.Goal) w2664 (by kernel_rfl) (E_load (e := 50) (fr := (0, 0)) _ _ false 1 b2661 1 [.int .i64 y2651.Guest, .int .i64 y2651.Goal, .slice ((g2656 0).1) y2651.Gave.length ((g2656 0).2)] (.int .i64 y2651.Goal) rfl (by kernel_rfl) (by kernel_rfl) (by kernel_rfl) (M2665.blk 0 (b := b2661) (o := .cells ⟨[.int .i64 y2651.Guest, .int .i64 y2651.Goal, .slice ((g2656 0).1) y2651.Gave.length ((g2656 0).2)]⟩ 50 (0, 0)) (by kernel_rfl))) ?_
        refine W_run 1 [(7, .int .i64 (w64 (s2639.1 + (y2651.Gave.length : Int)))), (8, .int .i64 s2639.2.1), (15, .slice p2599 x2597.length c2600), (16, .int .i64 (x2597.length : Int)), (17, .int .i64 s2639.2.2), (26, .int .i64 s2639.2.1), (28, .int .i64 y2651.Goal), (29, .pointer (some ⟨b2661, 2, none⟩))] w2664 (by kernel_rfl) ?_
        refine W_val (.slice ((g2656 0).1) y2651.Gave.length ((g2656 0).2)) w2664 (by kernel_rfl) (E_load (e := 50) (fr := (0, 0)) _ _ false 1 b2661 2 [.int .i64 y2651.Guest, .int .i64 y2651.Goal, .slice ((g2656 0).1) y2651.Gave.length ((g2656 0).2)] (.slice ((g2656 0).1) y2651.Gave.length ((g2656 0).2)) rfl (by kernel_rfl) (by kernel_rfl) (by kernel_rfl) (M2665.blk 0 (b := b2661) (o := .cells ⟨[.int .i64 y2651.Guest, .int .i64 y2651.Goal, .slice ((g2656 0).1) y2651.Gave.length ((g2656 0).2)]⟩ 50 (0, 0)) (by kernel_rfl))) ?_
        refine W_run 5 [(7, .int .i64 (w64 (s2639.1 + (y2651.Gave.length : Int)))), (8, .int .i64 (w64 (s2639.2.1 + (gxMax (w64 (y2651.Goal - (y2651.Gave.length : Int))) 0)))), (15, .slice p2599 x2597.length c2600), (16, .int .i64 (x2597.length : Int)), (17, .int .i64 s2639.2.2)] w2664 (by kernel_rfl) ?_
        refine W_nil ?_
        refine N_block ?_
        refine N_then ?_
        refine G_region ?_
        refine W_run 2 [(7, .int .i64 (w64 (s2639.1 + (y2651.Gave.length : Int)))), (8, .int .i64 (w64 (s2639.2.1 + (gxMax (w64 (y2651.Goal - (y2651.Gave.length : Int))) 0)))), (15, .slice p2599 x2597.length c2600), (16, .int .i64 (x2597.length : Int)), (17, .int .i64 (w64 (s2639.2.2 + 1)))] w2664 (by kernel_rfl) ?_
        refine W_nil ?_
        obtain rfl := Option.some.inj hm
        exact N_loop fun a ha => ⟨_, rfl, M2665.pick [] (by kernel_rfl), ha.sub (by kernel_rfl)⟩
      · refine G_cond_f (b := (decide (s2639.2.2 < (x2597.length : Int)))) hc2650 (by kernel_rfl) ?_
        refine G_exit ?_
        refine N_then_exit ?_
        refine N_then_exit ?_
        refine N_block_eq ?_
        obtain rfl := Option.some.inj hm
        obtain rfl := hout2641 _ rfl
        exact N_meet fun a ha => ⟨M2644.pick [] (by kernel_rfl), ha.sub (by kernel_rfl)⟩
    · intro a2666 w2667 ⟨M2668, hS2669⟩
      refine N_use hS2669 ?_
      have hm := hmo2648
      refine N_then ?_
      refine G_seq ?_
      refine G_region ?_
      refine W_run 5 [(4, .int .i64 out2646.1), (5, .int .i64 out2646.2), (6, .bool true)] w2667 (by kernel_rfl) ?_
      refine W_nil ?_
      refine N_then ?_
      refine G_ret ?_
      obtain rfl := Option.some.inj hm
      refine N_ret [.int .i64 out2646.1, .int .i64 out2646.2, .bool true] (RVs_cons (RV_tmp (by kernel_rfl)) (RVs_cons (RV_tmp (by kernel_rfl)) (RVs_cons (RV_tmp (by kernel_rfl)) RVs_nil))) ?_
      exact ⟨rfl, M2668.pick [] (by kernel_rfl)⟩
end Go.Proofs.Ytlfligjpmodefaa
