/- The walks, printed by program: whenever the model gives r, the call returns r. Part 1. -/
import Derived.Test.YtllhajkgkghhdaaGreatAM
import Derived.Test.YtllhajkgkghhdaaGreatProg
import Derived.Test.YtllhajkgkghhdaaGreatSh
set_option linter.unusedVariables false
set_option maxRecDepth 100000
set_option maxHeartbeats 4000000
namespace Go.Proofs.YtllhajkgkghhdaaGreat
open Go.Gx
theorem c_l_szRouteS (w : World) (x44 : List Route) (p46 : Option Addr) (c47 : Nat) (h48 : rdS encRoute w x44 p46 c47) (x49 : Int) {r : Int} (hm : M.l_szRouteS x44 x49 = some r) :
    Calls Tryz.prog 51 #[.slice p46 x44.length c47, .int .i64 x49] w fun e w' => e = .returned (.int .i64 r) ∧ Mem [] w w' [] := by
  unfold M.l_szRouteS at hm
  refine C_enter Tryz.func51 rfl (by kernel_rfl) ?_
  have M0 := Mem.refl [] w
  refine G_seq ?_
  refine G_region ?_
  refine W_run 1 [(0, .slice p46 x44.length c47), (1, .int .i64 x49)] w (by kernel_rfl) ?_
  refine W_nil ?_
  refine N_then ?_
  refine G_seq ?_
  refine G_region ?_
  refine W_run 5 [(1, .int .i64 (w64 (x49 - (x44.length : Int))))] w (by kernel_rfl) ?_
  refine W_nil ?_
  refine N_then ?_
  refine G_seq ?_
  refine G_seq ?_
  refine G_region ?_
  refine W_run 2 [(1, .int .i64 (w64 (x49 - (x44.length : Int)))), (10, .bool (decide ((w64 (x49 - (x44.length : Int))) < 0)))] w (by kernel_rfl) ?_
  refine W_nil ?_
  refine N_then ?_
  rcases gx_bif hm with ⟨hc50, hm⟩ | ⟨hc50, hm⟩
  · refine G_cond_t (b := (decide ((w64 (x49 - (x44.length : Int))) < 0))) hc50 (by kernel_rfl) ?_
    refine G_seq ?_
    refine G_region ?_
    refine W_run 1 [(4, .int .i64 (-1))] w (by kernel_rfl) ?_
    refine W_nil ?_
    refine N_then ?_
    refine G_ret ?_
    refine N_then_ret ?_
    obtain rfl := Option.some.inj hm
    refine N_ret [.int .i64 (-1)] (RVs_cons (RV_tmp (by kernel_rfl)) RVs_nil) ?_
    exact ⟨rfl, M0.pick [] (by kernel_rfl)⟩
  · refine G_cond_f (b := (decide ((w64 (x49 - (x44.length : Int))) < 0))) hc50 (by kernel_rfl) ?_
    refine G_skip ?_
    refine N_then ?_
    refine G_seq ?_
    refine G_region ?_
    refine W_run 2 [(4, .int .i64 (w64 (x49 - (x44.length : Int))))] w (by kernel_rfl) ?_
    refine W_nil ?_
    refine N_then ?_
    refine G_ret ?_
    obtain rfl := Option.some.inj hm
    refine N_ret [.int .i64 (w64 (x49 - (x44.length : Int)))] (RVs_cons (RV_tmp (by kernel_rfl)) RVs_nil) ?_
    exact ⟨rfl, M0.pick [] (by kernel_rfl)⟩
theorem c_l_szBoolS (w : World) (x56 : List Bool) (p58 : Option Addr) (c59 : Nat) (h60 : rdS Gx.encB w x56 p58 c59) (x61 : Int) {r : Int} (hm : M.l_szBoolS x56 x61 = some r) :
    Calls Tryz.prog 52 #[.slice p58 x56.length c59, .int .i64 x61] w fun e w' => e = .returned (.int .i64 r) ∧ Mem [] w w' [] := by
  unfold M.l_szBoolS at hm
  refine C_enter Tryz.func52 rfl (by kernel_rfl) ?_
  have M0 := Mem.refl [] w
  refine G_seq ?_
  refine G_region ?_
  refine W_run 1 [(0, .slice p58 x56.length c59), (1, .int .i64 x61)] w (by kernel_rfl) ?_
  refine W_nil ?_
  refine N_then ?_
  refine G_seq ?_
  refine G_region ?_
  refine W_run 5 [(1, .int .i64 (w64 (x61 - (x56.length : Int))))] w (by kernel_rfl) ?_
  refine W_nil ?_
  refine N_then ?_
  refine G_seq ?_
  refine G_seq ?_
  refine G_region ?_
  refine W_run 2 [(1, .int .i64 (w64 (x61 - (x56.length : Int)))), (10, .bool (decide ((w64 (x61 - (x56.length : Int))) < 0)))] w (by kernel_rfl) ?_
  refine W_nil ?_
  refine N_then ?_
  rcases gx_bif hm with ⟨hc62, hm⟩ | ⟨hc62, hm⟩
  · refine G_cond_t (b := (decide ((w64 (x61 - (x56.length : Int))) < 0))) hc62 (by kernel_rfl) ?_
    refine G_seq ?_
    refine G_region ?_
    refine W_run 1 [(4, .int .i64 (-1))] w (by kernel_rfl) ?_
    refine W_nil ?_
    refine N_then ?_
    refine G_ret ?_
    refine N_then_ret ?_
    obtain rfl := Option.some.inj hm
    refine N_ret [.int .i64 (-1)] (RVs_cons (RV_tmp (by kernel_rfl)) RVs_nil) ?_
    exact ⟨rfl, M0.pick [] (by kernel_rfl)⟩
  · refine G_cond_f (b := (decide ((w64 (x61 - (x56.length : Int))) < 0))) hc62 (by kernel_rfl) ?_
    refine G_skip ?_
    refine N_then ?_
    refine G_seq ?_
    refine G_region ?_
    refine W_run 2 [(4, .int .i64 (w64 (x61 - (x56.length : Int))))] w (by kernel_rfl) ?_
    refine W_nil ?_
    refine N_then ?_
    refine G_ret ?_
    obtain rfl := Option.some.inj hm
    refine N_ret [.int .i64 (w64 (x61 - (x56.length : Int)))] (RVs_cons (RV_tmp (by kernel_rfl)) RVs_nil) ?_
    exact ⟨rfl, M0.pick [] (by kernel_rfl)⟩
theorem c_l_szIntS (w : World) (x109 : List Int) (p111 : Option Addr) (c112 : Nat) (h113 : rdS Gx.encI w x109 p111 c112) (x114 : Int) {r : Int} (hm : M.l_szIntS x109 x114 = some r) :
    Calls Tryz.prog 152 #[.slice p111 x109.length c112, .int .i64 x114] w fun e w' => e = .returned (.int .i64 r) ∧ Mem [] w w' [] := by
  unfold M.l_szIntS at hm
  refine C_enter Tryz.func152 rfl (by kernel_rfl) ?_
  have M0 := Mem.refl [] w
  refine G_seq ?_
  refine G_region ?_
  refine W_run 1 [(0, .slice p111 x109.length c112), (1, .int .i64 x114)] w (by kernel_rfl) ?_
  refine W_nil ?_
  refine N_then ?_
  refine G_seq ?_
  refine G_region ?_
  refine W_run 5 [(1, .int .i64 (w64 (x114 - (x109.length : Int))))] w (by kernel_rfl) ?_
  refine W_nil ?_
  refine N_then ?_
  refine G_seq ?_
  refine G_seq ?_
  refine G_region ?_
  refine W_run 2 [(1, .int .i64 (w64 (x114 - (x109.length : Int)))), (10, .bool (decide ((w64 (x114 - (x109.length : Int))) < 0)))] w (by kernel_rfl) ?_
  refine W_nil ?_
  refine N_then ?_
  rcases gx_bif hm with ⟨hc115, hm⟩ | ⟨hc115, hm⟩
  · refine G_cond_t (b := (decide ((w64 (x114 - (x109.length : Int))) < 0))) hc115 (by kernel_rfl) ?_
    refine G_seq ?_
    refine G_region ?_
    refine W_run 1 [(4, .int .i64 (-1))] w (by kernel_rfl) ?_
    refine W_nil ?_
    refine N_then ?_
    refine G_ret ?_
    refine N_then_ret ?_
    obtain rfl := Option.some.inj hm
    refine N_ret [.int .i64 (-1)] (RVs_cons (RV_tmp (by kernel_rfl)) RVs_nil) ?_
    exact ⟨rfl, M0.pick [] (by kernel_rfl)⟩
  · refine G_cond_f (b := (decide ((w64 (x114 - (x109.length : Int))) < 0))) hc115 (by kernel_rfl) ?_
    refine G_skip ?_
    refine N_then ?_
    refine G_seq ?_
    refine G_region ?_
    refine W_run 2 [(4, .int .i64 (w64 (x114 - (x109.length : Int))))] w (by kernel_rfl) ?_
    refine W_nil ?_
    refine N_then ?_
    refine G_ret ?_
    obtain rfl := Option.some.inj hm
    refine N_ret [.int .i64 (w64 (x114 - (x109.length : Int)))] (RVs_cons (RV_tmp (by kernel_rfl)) RVs_nil) ?_
    exact ⟨rfl, M0.pick [] (by kernel_rfl)⟩
theorem c_l_szSlotS (w : World) (x135 : List Slot) (p137 : Option Addr) (c138 : Nat) (h139 : rdS encSlot w x135 p137 c138) (x140 : Int) {r : Int} (hm : M.l_szSlotS x135 x140 = some r) :
    Calls Tryz.prog 187 #[.slice p137 x135.length c138, .int .i64 x140] w fun e w' => e = .returned (.int .i64 r) ∧ Mem [] w w' [] := by
  unfold M.l_szSlotS at hm
  refine C_enter Tryz.func187 rfl (by kernel_rfl) ?_
  have M0 := Mem.refl [] w
  refine G_seq ?_
  refine G_region ?_
  refine W_run 1 [(0, .slice p137 x135.length c138), (1, .int .i64 x140)] w (by kernel_rfl) ?_
  refine W_nil ?_
  refine N_then ?_
  refine G_seq ?_
  refine G_region ?_
  refine W_run 5 [(1, .int .i64 (w64 (x140 - (x135.length : Int))))] w (by kernel_rfl) ?_
  refine W_nil ?_
  refine N_then ?_
  refine G_seq ?_
  refine G_seq ?_
  refine G_region ?_
  refine W_run 2 [(1, .int .i64 (w64 (x140 - (x135.length : Int)))), (10, .bool (decide ((w64 (x140 - (x135.length : Int))) < 0)))] w (by kernel_rfl) ?_
  refine W_nil ?_
  refine N_then ?_
  rcases gx_bif hm with ⟨hc141, hm⟩ | ⟨hc141, hm⟩
  · refine G_cond_t (b := (decide ((w64 (x140 - (x135.length : Int))) < 0))) hc141 (by kernel_rfl) ?_
    refine G_seq ?_
    refine G_region ?_
    refine W_run 1 [(4, .int .i64 (-1))] w (by kernel_rfl) ?_
    refine W_nil ?_
    refine N_then ?_
    refine G_ret ?_
    refine N_then_ret ?_
    obtain rfl := Option.some.inj hm
    refine N_ret [.int .i64 (-1)] (RVs_cons (RV_tmp (by kernel_rfl)) RVs_nil) ?_
    exact ⟨rfl, M0.pick [] (by kernel_rfl)⟩
  · refine G_cond_f (b := (decide ((w64 (x140 - (x135.length : Int))) < 0))) hc141 (by kernel_rfl) ?_
    refine G_skip ?_
    refine N_then ?_
    refine G_seq ?_
    refine G_region ?_
    refine W_run 2 [(4, .int .i64 (w64 (x140 - (x135.length : Int))))] w (by kernel_rfl) ?_
    refine W_nil ?_
    refine N_then ?_
    refine G_ret ?_
    obtain rfl := Option.some.inj hm
    refine N_ret [.int .i64 (w64 (x140 - (x135.length : Int)))] (RVs_cons (RV_tmp (by kernel_rfl)) RVs_nil) ?_
    exact ⟨rfl, M0.pick [] (by kernel_rfl)⟩
theorem c_l_szWaiterS (w : World) (x147 : List Waiter) (p149 : Option Addr) (c150 : Nat) (h151 : rdS encWaiter w x147 p149 c150) (x152 : Int) {r : Int} (hm : M.l_szWaiterS x147 x152 = some r) :
    Calls Tryz.prog 188 #[.slice p149 x147.length c150, .int .i64 x152] w fun e w' => e = .returned (.int .i64 r) ∧ Mem [] w w' [] := by
  unfold M.l_szWaiterS at hm
  refine C_enter Tryz.func188 rfl (by kernel_rfl) ?_
  have M0 := Mem.refl [] w
  refine G_seq ?_
  refine G_region ?_
  refine W_run 1 [(0, .slice p149 x147.length c150), (1, .int .i64 x152)] w (by kernel_rfl) ?_
  refine W_nil ?_
  refine N_then ?_
  refine G_seq ?_
  refine G_region ?_
  refine W_run 5 [(1, .int .i64 (w64 (x152 - (x147.length : Int))))] w (by kernel_rfl) ?_
  refine W_nil ?_
  refine N_then ?_
  refine G_seq ?_
  refine G_seq ?_
  refine G_region ?_
  refine W_run 2 [(1, .int .i64 (w64 (x152 - (x147.length : Int)))), (10, .bool (decide ((w64 (x152 - (x147.length : Int))) < 0)))] w (by kernel_rfl) ?_
  refine W_nil ?_
  refine N_then ?_
  rcases gx_bif hm with ⟨hc153, hm⟩ | ⟨hc153, hm⟩
  · refine G_cond_t (b := (decide ((w64 (x152 - (x147.length : Int))) < 0))) hc153 (by kernel_rfl) ?_
    refine G_seq ?_
    refine G_region ?_
    refine W_run 1 [(4, .int .i64 (-1))] w (by kernel_rfl) ?_
    refine W_nil ?_
    refine N_then ?_
    refine G_ret ?_
    refine N_then_ret ?_
    obtain rfl := Option.some.inj hm
    refine N_ret [.int .i64 (-1)] (RVs_cons (RV_tmp (by kernel_rfl)) RVs_nil) ?_
    exact ⟨rfl, M0.pick [] (by kernel_rfl)⟩
  · refine G_cond_f (b := (decide ((w64 (x152 - (x147.length : Int))) < 0))) hc153 (by kernel_rfl) ?_
    refine G_skip ?_
    refine N_then ?_
    refine G_seq ?_
    refine G_region ?_
    refine W_run 2 [(4, .int .i64 (w64 (x152 - (x147.length : Int))))] w (by kernel_rfl) ?_
    refine W_nil ?_
    refine N_then ?_
    refine G_ret ?_
    obtain rfl := Option.some.inj hm
    refine N_ret [.int .i64 (w64 (x152 - (x147.length : Int)))] (RVs_cons (RV_tmp (by kernel_rfl)) RVs_nil) ?_
    exact ⟨rfl, M0.pick [] (by kernel_rfl)⟩
theorem c_l_szQueue (w : World) (x121 : Queue) (p123 : Option Addr) (c124 : Nat) (h125 : rdS encSlot w x121.Slots p123 c124) (p127 : Option Addr) (c128 : Nat) (h129 : rdS encWaiter w x121.Waiting p127 c128) (x130 : Int) {r : Int} (hm : M.l_szQueue x121 x130 = some r) :
    Calls Tryz.prog 153 #[.agg #[.slice p123 x121.Slots.length c124, .slice p127 x121.Waiting.length c128], .int .i64 x130] w fun e w' => e = .returned (.int .i64 r) ∧ Mem [] w w' [] := by
  unfold M.l_szQueue at hm
  refine C_enter Tryz.func153 rfl (by kernel_rfl) ?_
  have M0 := Mem.refl [] w
  refine G_seq ?_
  refine G_region ?_
  refine W_new (fun b => .pointer (some ⟨b, 0, none⟩)) (.cells ⟨[.slice p123 x121.Slots.length c124, .slice p127 x121.Waiting.length c128]⟩ 124 (0, 0)) M0 rfl (by kernel_rfl) (by kernel_rfl) ?_
  intro b132 w133 M134
  refine W_run 1 [(1, .int .i64 x130), (2, .pointer (some ⟨b132, 0, none⟩))] w133 (by kernel_rfl) ?_
  refine W_nil ?_
  refine N_then ?_
  refine G_seq ?_
  refine G_region ?_
  refine W_run 1 [(1, .int .i64 x130), (2, .pointer (some ⟨b132, 0, none⟩)), (5, .pointer (some ⟨b132, 0, none⟩))] w133 (by kernel_rfl) ?_
  refine W_val (.slice p123 x121.Slots.length c124) w133 (by kernel_rfl) (E_load (e := 124) (fr := (0, 0)) _ _ false 1 b132 0 [.slice p123 x121.Slots.length c124, .slice p127 x121.Waiting.length c128] (.slice p123 x121.Slots.length c124) rfl (by kernel_rfl) (by kernel_rfl) (by kernel_rfl) (M134.blk 0 (b := b132) (o := .cells ⟨[.slice p123 x121.Slots.length c124, .slice p127 x121.Waiting.length c128]⟩ 124 (0, 0)) (by kernel_rfl))) ?_
  refine W_run 1 [(1, .int .i64 x130), (2, .pointer (some ⟨b132, 0, none⟩)), (6, .slice p123 x121.Slots.length c124), (7, .int .i64 x130)] w133 (by kernel_rfl) ?_
  obtain ⟨r142, hr142, hm⟩ := gx_bind hm
  refine W_call 187 #[.slice p123 x121.Slots.length c124, .int .i64 x130] (by kernel_rfl) (by kernel_rfl) ?_
  refine (c_l_szSlotS w133 x121.Slots p123 c124 (h125.mem0 M134) x130 hr142).mono ?_
  rintro e_ w143 ⟨rfl, K144⟩
  have M145 := M134.call0 K144
  refine ⟨_, rfl, ?_⟩
  refine W_run 1 [(1, .int .i64 r142), (2, .pointer (some ⟨b132, 0, none⟩))] w143 (by kernel_rfl) ?_
  refine W_nil ?_
  refine N_then ?_
  refine G_seq ?_
  refine G_seq ?_
  refine G_region ?_
  refine W_run 2 [(1, .int .i64 r142), (2, .pointer (some ⟨b132, 0, none⟩)), (10, .bool (decide (r142 < 0)))] w143 (by kernel_rfl) ?_
  refine W_nil ?_
  refine N_then ?_
  rcases gx_bif hm with ⟨hc146, hm⟩ | ⟨hc146, hm⟩
  · refine G_cond_t (b := (decide (r142 < 0))) hc146 (by kernel_rfl) ?_
    refine G_seq ?_
    refine G_region ?_
    refine W_run 1 [(4, .int .i64 (-1))] w143 (by kernel_rfl) ?_
    refine W_nil ?_
    refine N_then ?_
    refine G_ret ?_
    refine N_then_ret ?_
    obtain rfl := Option.some.inj hm
    refine N_ret [.int .i64 (-1)] (RVs_cons (RV_tmp (by kernel_rfl)) RVs_nil) ?_
    exact ⟨rfl, M145.pick [] (by kernel_rfl)⟩
  · refine G_cond_f (b := (decide (r142 < 0))) hc146 (by kernel_rfl) ?_
    refine G_skip ?_
    refine N_then ?_
    refine G_seq ?_
    refine G_region ?_
    refine W_run 1 [(1, .int .i64 r142), (11, .pointer (some ⟨b132, 1, none⟩))] w143 (by kernel_rfl) ?_
    refine W_val (.slice p127 x121.Waiting.length c128) w143 (by kernel_rfl) (E_load (e := 124) (fr := (0, 0)) _ _ false 1 b132 1 [.slice p123 x121.Slots.length c124, .slice p127 x121.Waiting.length c128] (.slice p127 x121.Waiting.length c128) rfl (by kernel_rfl) (by kernel_rfl) (by kernel_rfl) (M145.blk 0 (b := b132) (o := .cells ⟨[.slice p123 x121.Slots.length c124, .slice p127 x121.Waiting.length c128]⟩ 124 (0, 0)) (by kernel_rfl))) ?_
    refine W_run 1 [(1, .int .i64 r142), (12, .slice p127 x121.Waiting.length c128), (13, .int .i64 r142)] w143 (by kernel_rfl) ?_
    obtain ⟨r154, hr154, hm⟩ := gx_bind hm
    refine W_call 188 #[.slice p127 x121.Waiting.length c128, .int .i64 r142] (by kernel_rfl) (by kernel_rfl) ?_
    refine (c_l_szWaiterS w143 x121.Waiting p127 c128 (h129.mem0 M145) r142 hr154).mono ?_
    rintro e_ w155 ⟨rfl, K156⟩
    have M157 := M145.call0 K156
    refine ⟨_, rfl, ?_⟩
    refine W_run 1 [(1, .int .i64 r154)] w155 (by kernel_rfl) ?_
    refine W_nil ?_
    refine N_then ?_
    refine G_seq ?_
    refine G_seq ?_
    refine G_region ?_
    refine W_run 2 [(1, .int .i64 r154), (16, .bool (decide (r154 < 0)))] w155 (by kernel_rfl) ?_
    refine W_nil ?_
    refine N_then ?_
    rcases gx_bif hm with ⟨hc158, hm⟩ | ⟨hc158, hm⟩
    · refine G_cond_t (b := (decide (r154 < 0))) hc158 (by kernel_rfl) ?_
      refine G_seq ?_
      refine G_region ?_
      refine W_run 1 [(4, .int .i64 (-1))] w155 (by kernel_rfl) ?_
      refine W_nil ?_
      refine N_then ?_
      refine G_ret ?_
      refine N_then_ret ?_
      obtain rfl := Option.some.inj hm
      refine N_ret [.int .i64 (-1)] (RVs_cons (RV_tmp (by kernel_rfl)) RVs_nil) ?_
      exact ⟨rfl, M157.pick [] (by kernel_rfl)⟩
    · refine G_cond_f (b := (decide (r154 < 0))) hc158 (by kernel_rfl) ?_
      refine G_skip ?_
      refine N_then ?_
      refine G_seq ?_
      refine G_region ?_
      refine W_run 2 [(4, .int .i64 r154)] w155 (by kernel_rfl) ?_
      refine W_nil ?_
      refine N_then ?_
      refine G_ret ?_
      obtain rfl := Option.some.inj hm
      refine N_ret [.int .i64 r154] (RVs_cons (RV_tmp (by kernel_rfl)) RVs_nil) ?_
      exact ⟨rfl, M157.pick [] (by kernel_rfl)⟩
theorem c_l_szInterface (w : World) (x91 : Interface) (p93 : Option Addr) (c94 : Nat) (h95 : rdS Gx.encI w x91.Stack p93 c94) (p97 : Option Addr) (c98 : Nat) (h99 : rdS encSlot w x91.Queue.Slots p97 c98) (p101 : Option Addr) (c102 : Nat) (h103 : rdS encWaiter w x91.Queue.Waiting p101 c102) (x104 : Int) {r : Int} (hm : M.l_szInterface x91 x104 = some r) :
    Calls Tryz.prog 103 #[.agg #[.int .i64 x91.Mask, .slice p93 x91.Stack.length c94, .slice p97 x91.Queue.Slots.length c98, .slice p101 x91.Queue.Waiting.length c102], .int .i64 x104] w fun e w' => e = .returned (.int .i64 r) ∧ Mem [] w w' [] := by
  unfold M.l_szInterface at hm
  refine C_enter Tryz.func103 rfl (by kernel_rfl) ?_
  have M0 := Mem.refl [] w
  refine G_seq ?_
  refine G_region ?_
  refine W_new (fun b => .pointer (some ⟨b, 0, none⟩)) (.cells ⟨[.int .i64 x91.Mask, .slice p93 x91.Stack.length c94, .slice p97 x91.Queue.Slots.length c98, .slice p101 x91.Queue.Waiting.length c102]⟩ 126 (0, 0)) M0 rfl (by kernel_rfl) (by kernel_rfl) ?_
  intro b106 w107 M108
  refine W_run 1 [(1, .int .i64 x104), (2, .pointer (some ⟨b106, 0, none⟩))] w107 (by kernel_rfl) ?_
  refine W_nil ?_
  refine N_then ?_
  refine G_seq ?_
  refine G_region ?_
  refine W_run 1 [(1, .int .i64 x104), (2, .pointer (some ⟨b106, 0, none⟩)), (5, .pointer (some ⟨b106, 1, none⟩))] w107 (by kernel_rfl) ?_
  refine W_val (.slice p93 x91.Stack.length c94) w107 (by kernel_rfl) (E_load (e := 126) (fr := (0, 0)) _ _ false 1 b106 1 [.int .i64 x91.Mask, .slice p93 x91.Stack.length c94, .slice p97 x91.Queue.Slots.length c98, .slice p101 x91.Queue.Waiting.length c102] (.slice p93 x91.Stack.length c94) rfl (by kernel_rfl) (by kernel_rfl) (by kernel_rfl) (M108.blk 0 (b := b106) (o := .cells ⟨[.int .i64 x91.Mask, .slice p93 x91.Stack.length c94, .slice p97 x91.Queue.Slots.length c98, .slice p101 x91.Queue.Waiting.length c102]⟩ 126 (0, 0)) (by kernel_rfl))) ?_
  refine W_run 1 [(1, .int .i64 x104), (2, .pointer (some ⟨b106, 0, none⟩)), (6, .slice p93 x91.Stack.length c94), (7, .int .i64 x104)] w107 (by kernel_rfl) ?_
  obtain ⟨r116, hr116, hm⟩ := gx_bind hm
  refine W_call 152 #[.slice p93 x91.Stack.length c94, .int .i64 x104] (by kernel_rfl) (by kernel_rfl) ?_
  refine (c_l_szIntS w107 x91.Stack p93 c94 (h95.mem0 M108) x104 hr116).mono ?_
  rintro e_ w117 ⟨rfl, K118⟩
  have M119 := M108.call0 K118
  refine ⟨_, rfl, ?_⟩
  refine W_run 1 [(1, .int .i64 r116), (2, .pointer (some ⟨b106, 0, none⟩))] w117 (by kernel_rfl) ?_
  refine W_nil ?_
  refine N_then ?_
  refine G_seq ?_
  refine G_seq ?_
  refine G_region ?_
  refine W_run 2 [(1, .int .i64 r116), (2, .pointer (some ⟨b106, 0, none⟩)), (10, .bool (decide (r116 < 0)))] w117 (by kernel_rfl) ?_
  refine W_nil ?_
  refine N_then ?_
  rcases gx_bif hm with ⟨hc120, hm⟩ | ⟨hc120, hm⟩
  · refine G_cond_t (b := (decide (r116 < 0))) hc120 (by kernel_rfl) ?_
    refine G_seq ?_
    refine G_region ?_
    refine W_run 1 [(4, .int .i64 (-1))] w117 (by kernel_rfl) ?_
    refine W_nil ?_
    refine N_then ?_
    refine G_ret ?_
    refine N_then_ret ?_
    obtain rfl := Option.some.inj hm
    refine N_ret [.int .i64 (-1)] (RVs_cons (RV_tmp (by kernel_rfl)) RVs_nil) ?_
    exact ⟨rfl, M119.pick [] (by kernel_rfl)⟩
  · refine G_cond_f (b := (decide (r116 < 0))) hc120 (by kernel_rfl) ?_
    refine G_skip ?_
    refine N_then ?_
    refine G_seq ?_
    refine G_region ?_
    refine W_run 1 [(1, .int .i64 r116), (11, .pointer (some ⟨b106, 2, none⟩))] w117 (by kernel_rfl) ?_
    refine W_val (.agg #[.slice p97 x91.Queue.Slots.length c98, .slice p101 x91.Queue.Waiting.length c102]) w117 (by kernel_rfl) (E_load (e := 126) (fr := (0, 0)) _ _ true 2 b106 2 [.int .i64 x91.Mask, .slice p93 x91.Stack.length c94, .slice p97 x91.Queue.Slots.length c98, .slice p101 x91.Queue.Waiting.length c102] (.agg #[.slice p97 x91.Queue.Slots.length c98, .slice p101 x91.Queue.Waiting.length c102]) rfl (by kernel_rfl) (by kernel_rfl) (by kernel_rfl) (M119.blk 0 (b := b106) (o := .cells ⟨[.int .i64 x91.Mask, .slice p93 x91.Stack.length c94, .slice p97 x91.Queue.Slots.length c98, .slice p101 x91.Queue.Waiting.length c102]⟩ 126 (0, 0)) (by kernel_rfl))) ?_
    refine W_run 1 [(1, .int .i64 r116), (12, .agg #[.slice p97 x91.Queue.Slots.length c98, .slice p101 x91.Queue.Waiting.length c102]), (13, .int .i64 r116)] w117 (by kernel_rfl) ?_
    obtain ⟨r159, hr159, hm⟩ := gx_bind hm
    refine W_call 153 #[.agg #[.slice p97 x91.Queue.Slots.length c98, .slice p101 x91.Queue.Waiting.length c102], .int .i64 r116] (by kernel_rfl) (by kernel_rfl) ?_
    refine (c_l_szQueue w117 (⟨x91.Queue.Slots, x91.Queue.Waiting⟩ : Queue) p97 c98 (h99.mem0 M119) p101 c102 (h103.mem0 M119) r116 hr159).mono ?_
    rintro e_ w160 ⟨rfl, K161⟩
    have M162 := M119.call0 K161
    refine ⟨_, rfl, ?_⟩
    refine W_run 1 [(1, .int .i64 r159)] w160 (by kernel_rfl) ?_
    refine W_nil ?_
    refine N_then ?_
    refine G_seq ?_
    refine G_seq ?_
    refine G_region ?_
    refine W_run 2 [(1, .int .i64 r159), (16, .bool (decide (r159 < 0)))] w160 (by kernel_rfl) ?_
    refine W_nil ?_
    refine N_then ?_
    rcases gx_bif hm with ⟨hc163, hm⟩ | ⟨hc163, hm⟩
    · refine G_cond_t (b := (decide (r159 < 0))) hc163 (by kernel_rfl) ?_
      refine G_seq ?_
      refine G_region ?_
      refine W_run 1 [(4, .int .i64 (-1))] w160 (by kernel_rfl) ?_
      refine W_nil ?_
      refine N_then ?_
      refine G_ret ?_
      refine N_then_ret ?_
      obtain rfl := Option.some.inj hm
      refine N_ret [.int .i64 (-1)] (RVs_cons (RV_tmp (by kernel_rfl)) RVs_nil) ?_
      exact ⟨rfl, M162.pick [] (by kernel_rfl)⟩
    · refine G_cond_f (b := (decide (r159 < 0))) hc163 (by kernel_rfl) ?_
      refine G_skip ?_
      refine N_then ?_
      refine G_seq ?_
      refine G_region ?_
      refine W_run 2 [(4, .int .i64 r159)] w160 (by kernel_rfl) ?_
      refine W_nil ?_
      refine N_then ?_
      refine G_ret ?_
      obtain rfl := Option.some.inj hm
      refine N_ret [.int .i64 r159] (RVs_cons (RV_tmp (by kernel_rfl)) RVs_nil) ?_
      exact ⟨rfl, M162.pick [] (by kernel_rfl)⟩
theorem c_l_szInterfaceS (w : World) (x73 : List Interface) (p75 : Option Addr) (c76 : Nat) (h77 : rdD deepInterface w x73 p75 c76) (x78 : Int) {r : Int} (hm : M.l_szInterfaceS x73 x78 = some r) :
    Calls Tryz.prog 53 #[.slice p75 x73.length c76, .int .i64 x78] w fun e w' => e = .returned (.int .i64 r) ∧ Mem [] w w' [] := by
  unfold M.l_szInterfaceS at hm
  refine C_enter Tryz.func53 rfl (by kernel_rfl) ?_
  have M0 := Mem.refl [] w
  refine G_seq ?_
  refine G_region ?_
  refine W_run 1 [(0, .slice p75 x73.length c76), (1, .int .i64 x78)] w (by kernel_rfl) ?_
  refine W_nil ?_
  refine N_then ?_
  refine G_seq ?_
  refine G_region ?_
  refine W_run 5 [(0, .slice p75 x73.length c76), (1, .int .i64 (w64 (x78 - (x73.length : Int))))] w (by kernel_rfl) ?_
  refine W_nil ?_
  refine N_then ?_
  refine G_seq ?_
  refine G_seq ?_
  refine G_region ?_
  refine W_run 2 [(0, .slice p75 x73.length c76), (1, .int .i64 (w64 (x78 - (x73.length : Int)))), (11, .bool (decide ((w64 (x78 - (x73.length : Int))) < 0)))] w (by kernel_rfl) ?_
  refine W_nil ?_
  refine N_then ?_
  rcases gx_bif hm with ⟨hc79, hm⟩ | ⟨hc79, hm⟩
  · refine G_cond_t (b := (decide ((w64 (x78 - (x73.length : Int))) < 0))) hc79 (by kernel_rfl) ?_
    refine G_seq ?_
    refine G_region ?_
    refine W_run 1 [(4, .int .i64 (-1))] w (by kernel_rfl) ?_
    refine W_nil ?_
    refine N_then ?_
    refine G_ret ?_
    refine N_then_ret ?_
    obtain rfl := Option.some.inj hm
    refine N_ret [.int .i64 (-1)] (RVs_cons (RV_tmp (by kernel_rfl)) RVs_nil) ?_
    exact ⟨rfl, M0.pick [] (by kernel_rfl)⟩
  · refine G_cond_f (b := (decide ((w64 (x78 - (x73.length : Int))) < 0))) hc79 (by kernel_rfl) ?_
    refine G_skip ?_
    refine N_then ?_
    refine G_seq ?_
    refine G_seq ?_
    refine G_region ?_
    refine W_run 1 [(0, .slice p75 x73.length c76), (1, .int .i64 (w64 (x78 - (x73.length : Int)))), (5, .int .i64 0)] w (by kernel_rfl) ?_
    refine W_nil ?_
    refine N_then ?_
    obtain ⟨out192, hw193, hmo194⟩ := gx_bind hm
    refine G_meet (fun a w' => ∃ (o195 : Int), out192 = .inl o195 ∧ Mem [] w w' [] ∧ Sat Tryz.f53.ntmps [(1, .int .i64 o195)] a) ?_ ?_
    · refine G_block ?_
      refine G_while (σ := Int × Int) (ρ := (Int) ⊕ (Int)) (fun s185 a w' => Mem [] w w' [] ∧ Sat Tryz.f53.ntmps [(0, .slice p75 x73.length c76), (1, .int .i64 s185.1), (5, .int .i64 s185.2)] a) hw193 (fun a ha => ⟨M0.pick [] (by kernel_rfl), ha.sub (by kernel_rfl)⟩) ?_
      clear hm
      intro s185 x186 hm hout187 a188 w189 ⟨M190, hS191⟩
      refine G_use hS191 ?_
      refine G_seq ?_
      refine G_seq ?_
      refine G_region ?_
      refine W_run 4 [(0, .slice p75 x73.length c76), (1, .int .i64 s185.1), (5, .int .i64 s185.2), (15, .bool (decide (s185.2 < (x73.length : Int))))] w189 (by kernel_rfl) ?_
      refine W_nil ?_
      refine N_then ?_
      rcases gx_bif hm with ⟨hc196, hm⟩ | ⟨hc196, hm⟩
      · refine G_cond_t (b := (decide (s185.2 < (x73.length : Int)))) hc196 (by kernel_rfl) ?_
        refine G_skip ?_
        refine N_then ?_
        refine G_seq ?_
        refine G_block ?_
        refine G_seq ?_
        refine G_region ?_
        refine W_run 2 [(0, .slice p75 x73.length c76), (1, .int .i64 s185.1), (5, .int .i64 s185.2), (18, .slice p75 x73.length c76), (19, .int .i64 s185.2)] w189 (by kernel_rfl) ?_
        obtain ⟨y197, hy197, hm⟩ := gx_bind hm
        obtain ⟨zs198, hz199, hr200, hi201⟩ := id h77
        obtain ⟨g202, hg203⟩ := gxIdx_fst hz199 hy197
        refine W_val (elemP p75 (s185.2.toNat * 4)) w189 (by kernel_rfl) (E_index (E := deepInterface.E) _ _ _ x73.length c76 .i64 s185.2 4 (y := (y197, g202)) rfl (by kernel_rfl) (by kernel_rfl) (by kernel_rfl) (hr200.mem0 M190) (len_fst hz199) hg203) ?_
        refine W_val (.agg #[.int .i64 y197.Mask, .slice ((g202 0).1) y197.Stack.length ((g202 0).2), .slice ((g202 1).1) y197.Queue.Slots.length ((g202 1).2), .slice ((g202 2).1) y197.Queue.Waiting.length ((g202 2).2)]) w189 (by kernel_rfl) (E_loadE (E := deepInterface.E) _ _ true 4 s185.2 0 (s185.2.toNat * 4) (y197, g202) (.agg #[.int .i64 y197.Mask, .slice ((g202 0).1) y197.Stack.length ((g202 0).2), .slice ((g202 1).1) y197.Queue.Slots.length ((g202 1).2), .slice ((g202 2).1) y197.Queue.Waiting.length ((g202 2).2)]) rfl (by kernel_rfl) (by kernel_rfl) (by kernel_rfl) (hr200.mem0 M190) hg203 rfl) ?_
        refine W_run 1 [(0, .slice p75 x73.length c76), (1, .int .i64 s185.1), (5, .int .i64 s185.2), (21, .agg #[.int .i64 y197.Mask, .slice ((g202 0).1) y197.Stack.length ((g202 0).2), .slice ((g202 1).1) y197.Queue.Slots.length ((g202 1).2), .slice ((g202 2).1) y197.Queue.Waiting.length ((g202 2).2)]), (22, .int .i64 s185.1)] w189 (by kernel_rfl) ?_
        obtain ⟨r207, hr207, hm⟩ := gx_bind hm
        refine W_call 103 #[.agg #[.int .i64 y197.Mask, .slice ((g202 0).1) y197.Stack.length ((g202 0).2), .slice ((g202 1).1) y197.Queue.Slots.length ((g202 1).2), .slice ((g202 2).1) y197.Queue.Waiting.length ((g202 2).2)], .int .i64 s185.1] (by kernel_rfl) (by kernel_rfl) ?_
        refine (c_l_szInterface w189 (⟨y197.Mask, y197.Stack, (⟨y197.Queue.Slots, y197.Queue.Waiting⟩ : Queue)⟩ : Interface) ((g202 0).1) ((g202 0).2) ((hi201.mem0 M190).at_ hg203 0 ⟨Int, Gx.encI, y197.Stack, (g202 0).1, (g202 0).2⟩ (by kernel_rfl)) ((g202 1).1) ((g202 1).2) ((hi201.mem0 M190).at_ hg203 1 ⟨Slot, encSlot, y197.Queue.Slots, (g202 1).1, (g202 1).2⟩ (by kernel_rfl)) ((g202 2).1) ((g202 2).2) ((hi201.mem0 M190).at_ hg203 2 ⟨Waiter, encWaiter, y197.Queue.Waiting, (g202 2).1, (g202 2).2⟩ (by kernel_rfl)) s185.1 hr207).mono ?_
        rintro e_ w208 ⟨rfl, K209⟩
        have M210 := M190.call0 K209
        refine ⟨_, rfl, ?_⟩
        refine W_run 1 [(0, .slice p75 x73.length c76), (1, .int .i64 r207), (5, .int .i64 s185.2)] w208 (by kernel_rfl) ?_
        refine W_nil ?_
        refine N_then ?_
        refine G_seq ?_
        refine G_region ?_
        refine W_run 2 [(0, .slice p75 x73.length c76), (1, .int .i64 r207), (5, .int .i64 s185.2), (25, .bool (decide (r207 < 0)))] w208 (by kernel_rfl) ?_
        refine W_nil ?_
        refine N_then ?_
        rcases gx_bif hm with ⟨hc211, hm⟩ | ⟨hc211, hm⟩
        · refine G_cond_t (b := (decide (r207 < 0))) hc211 (by kernel_rfl) ?_
          refine G_seq ?_
          refine G_region ?_
          refine W_run 1 [(4, .int .i64 (-1))] w208 (by kernel_rfl) ?_
          refine W_nil ?_
          refine N_then ?_
          refine G_ret ?_
          refine N_block_ret ?_
          refine N_then_ret ?_
          refine N_then_ret ?_
          obtain rfl := Option.some.inj hm
          obtain rfl := hout187 _ rfl
          have hm := hmo194; simp only [Sum.elim_inr] at hm
          refine N_block_ret ?_
          refine N_meet_ret ?_
          refine N_then_ret ?_
          obtain rfl := Option.some.inj hm
          refine N_ret [.int .i64 (-1)] (RVs_cons (RV_tmp (by kernel_rfl)) RVs_nil) ?_
          exact ⟨rfl, M210.pick [] (by kernel_rfl)⟩
        · refine G_cond_f (b := (decide (r207 < 0))) hc211 (by kernel_rfl) ?_
          refine G_skip ?_
          refine N_block ?_
          refine N_then ?_
          refine G_region ?_
          refine W_run 3 [(0, .slice p75 x73.length c76), (1, .int .i64 r207), (5, .int .i64 (w64 (s185.2 + 1)))] w208 (by kernel_rfl) ?_
          refine W_nil ?_
          obtain rfl := Option.some.inj hm
          exact N_loop fun a ha => ⟨_, rfl, M210.pick [] (by kernel_rfl), ha.sub (by kernel_rfl)⟩
      · refine G_cond_f (b := (decide (s185.2 < (x73.length : Int)))) hc196 (by kernel_rfl) ?_
        refine G_exit ?_
        refine N_then_exit ?_
        refine N_then_exit ?_
        refine N_block_eq ?_
        obtain rfl := Option.some.inj hm
        obtain rfl := hout187 _ rfl
        exact N_meet fun a ha => ⟨_, rfl, M190.pick [] (by kernel_rfl), ha.sub (by kernel_rfl)⟩
    · intro a212 w213 ⟨o195, hout_, M214, hS215⟩
      refine N_use hS215 ?_
      subst hout_
      have hm := hmo194; simp only [Sum.elim_inl] at hm
      refine N_then ?_
      refine G_seq ?_
      refine G_region ?_
      refine W_run 2 [(4, .int .i64 o195)] w213 (by kernel_rfl) ?_
      refine W_nil ?_
      refine N_then ?_
      refine G_ret ?_
      obtain rfl := Option.some.inj hm
      refine N_ret [.int .i64 o195] (RVs_cons (RV_tmp (by kernel_rfl)) RVs_nil) ?_
      exact ⟨rfl, M214.pick [] (by kernel_rfl)⟩
theorem c_l_szMachine (w : World) (x22 : Machine) (p24 : Option Addr) (c25 : Nat) (h26 : rdS encRoute w x22.Routes p24 c25) (p28 : Option Addr) (c29 : Nat) (h30 : rdS Gx.encB w x22.Enabled p28 c29) (p32 : Option Addr) (c33 : Nat) (h34 : rdS Gx.encB w x22.Raised p32 c33) (p36 : Option Addr) (c37 : Nat) (h38 : rdD deepInterface w x22.Cpus p36 c37) (x39 : Int) {r : Int} (hm : M.l_szMachine x22 x39 = some r) :
    Calls Tryz.prog 12 #[.agg #[.slice p24 x22.Routes.length c25, .slice p28 x22.Enabled.length c29, .slice p32 x22.Raised.length c33, .slice p36 x22.Cpus.length c37], .int .i64 x39] w fun e w' => e = .returned (.int .i64 r) ∧ Mem [] w w' [] := by
  unfold M.l_szMachine at hm
  refine C_enter Tryz.func12 rfl (by kernel_rfl) ?_
  have M0 := Mem.refl [] w
  refine G_seq ?_
  refine G_region ?_
  refine W_new (fun b => .pointer (some ⟨b, 0, none⟩)) (.cells ⟨[.slice p24 x22.Routes.length c25, .slice p28 x22.Enabled.length c29, .slice p32 x22.Raised.length c33, .slice p36 x22.Cpus.length c37]⟩ 26 (0, 0)) M0 rfl (by kernel_rfl) (by kernel_rfl) ?_
  intro b41 w42 M43
  refine W_run 1 [(1, .int .i64 x39), (2, .pointer (some ⟨b41, 0, none⟩))] w42 (by kernel_rfl) ?_
  refine W_nil ?_
  refine N_then ?_
  refine G_seq ?_
  refine G_region ?_
  refine W_run 1 [(1, .int .i64 x39), (2, .pointer (some ⟨b41, 0, none⟩)), (5, .pointer (some ⟨b41, 0, none⟩))] w42 (by kernel_rfl) ?_
  refine W_val (.slice p24 x22.Routes.length c25) w42 (by kernel_rfl) (E_load (e := 26) (fr := (0, 0)) _ _ false 1 b41 0 [.slice p24 x22.Routes.length c25, .slice p28 x22.Enabled.length c29, .slice p32 x22.Raised.length c33, .slice p36 x22.Cpus.length c37] (.slice p24 x22.Routes.length c25) rfl (by kernel_rfl) (by kernel_rfl) (by kernel_rfl) (M43.blk 0 (b := b41) (o := .cells ⟨[.slice p24 x22.Routes.length c25, .slice p28 x22.Enabled.length c29, .slice p32 x22.Raised.length c33, .slice p36 x22.Cpus.length c37]⟩ 26 (0, 0)) (by kernel_rfl))) ?_
  refine W_run 1 [(1, .int .i64 x39), (2, .pointer (some ⟨b41, 0, none⟩)), (6, .slice p24 x22.Routes.length c25), (7, .int .i64 x39)] w42 (by kernel_rfl) ?_
  obtain ⟨r51, hr51, hm⟩ := gx_bind hm
  refine W_call 51 #[.slice p24 x22.Routes.length c25, .int .i64 x39] (by kernel_rfl) (by kernel_rfl) ?_
  refine (c_l_szRouteS w42 x22.Routes p24 c25 (h26.mem0 M43) x39 hr51).mono ?_
  rintro e_ w52 ⟨rfl, K53⟩
  have M54 := M43.call0 K53
  refine ⟨_, rfl, ?_⟩
  refine W_run 1 [(1, .int .i64 r51), (2, .pointer (some ⟨b41, 0, none⟩))] w52 (by kernel_rfl) ?_
  refine W_nil ?_
  refine N_then ?_
  refine G_seq ?_
  refine G_seq ?_
  refine G_region ?_
  refine W_run 2 [(1, .int .i64 r51), (2, .pointer (some ⟨b41, 0, none⟩)), (10, .bool (decide (r51 < 0)))] w52 (by kernel_rfl) ?_
  refine W_nil ?_
  refine N_then ?_
  rcases gx_bif hm with ⟨hc55, hm⟩ | ⟨hc55, hm⟩
  · refine G_cond_t (b := (decide (r51 < 0))) hc55 (by kernel_rfl) ?_
    refine G_seq ?_
    refine G_region ?_
    refine W_run 1 [(4, .int .i64 (-1))] w52 (by kernel_rfl) ?_
    refine W_nil ?_
    refine N_then ?_
    refine G_ret ?_
    refine N_then_ret ?_
    obtain rfl := Option.some.inj hm
    refine N_ret [.int .i64 (-1)] (RVs_cons (RV_tmp (by kernel_rfl)) RVs_nil) ?_
    exact ⟨rfl, M54.pick [] (by kernel_rfl)⟩
  · refine G_cond_f (b := (decide (r51 < 0))) hc55 (by kernel_rfl) ?_
    refine G_skip ?_
    refine N_then ?_
    refine G_seq ?_
    refine G_region ?_
    refine W_run 1 [(1, .int .i64 r51), (2, .pointer (some ⟨b41, 0, none⟩)), (11, .pointer (some ⟨b41, 1, none⟩))] w52 (by kernel_rfl) ?_
    refine W_val (.slice p28 x22.Enabled.length c29) w52 (by kernel_rfl) (E_load (e := 26) (fr := (0, 0)) _ _ false 1 b41 1 [.slice p24 x22.Routes.length c25, .slice p28 x22.Enabled.length c29, .slice p32 x22.Raised.length c33, .slice p36 x22.Cpus.length c37] (.slice p28 x22.Enabled.length c29) rfl (by kernel_rfl) (by kernel_rfl) (by kernel_rfl) (M54.blk 0 (b := b41) (o := .cells ⟨[.slice p24 x22.Routes.length c25, .slice p28 x22.Enabled.length c29, .slice p32 x22.Raised.length c33, .slice p36 x22.Cpus.length c37]⟩ 26 (0, 0)) (by kernel_rfl))) ?_
    refine W_run 1 [(1, .int .i64 r51), (2, .pointer (some ⟨b41, 0, none⟩)), (12, .slice p28 x22.Enabled.length c29), (13, .int .i64 r51)] w52 (by kernel_rfl) ?_
    obtain ⟨r63, hr63, hm⟩ := gx_bind hm
    refine W_call 52 #[.slice p28 x22.Enabled.length c29, .int .i64 r51] (by kernel_rfl) (by kernel_rfl) ?_
    refine (c_l_szBoolS w52 x22.Enabled p28 c29 (h30.mem0 M54) r51 hr63).mono ?_
    rintro e_ w64 ⟨rfl, K65⟩
    have M66 := M54.call0 K65
    refine ⟨_, rfl, ?_⟩
    refine W_run 1 [(1, .int .i64 r63), (2, .pointer (some ⟨b41, 0, none⟩))] w64 (by kernel_rfl) ?_
    refine W_nil ?_
    refine N_then ?_
    refine G_seq ?_
    refine G_seq ?_
    refine G_region ?_
    refine W_run 2 [(1, .int .i64 r63), (2, .pointer (some ⟨b41, 0, none⟩)), (16, .bool (decide (r63 < 0)))] w64 (by kernel_rfl) ?_
    refine W_nil ?_
    refine N_then ?_
    rcases gx_bif hm with ⟨hc67, hm⟩ | ⟨hc67, hm⟩
    · refine G_cond_t (b := (decide (r63 < 0))) hc67 (by kernel_rfl) ?_
      refine G_seq ?_
      refine G_region ?_
      refine W_run 1 [(4, .int .i64 (-1))] w64 (by kernel_rfl) ?_
      refine W_nil ?_
      refine N_then ?_
      refine G_ret ?_
      refine N_then_ret ?_
      obtain rfl := Option.some.inj hm
      refine N_ret [.int .i64 (-1)] (RVs_cons (RV_tmp (by kernel_rfl)) RVs_nil) ?_
      exact ⟨rfl, M66.pick [] (by kernel_rfl)⟩
    · refine G_cond_f (b := (decide (r63 < 0))) hc67 (by kernel_rfl) ?_
      refine G_skip ?_
      refine N_then ?_
      refine G_seq ?_
      refine G_region ?_
      refine W_run 1 [(1, .int .i64 r63), (2, .pointer (some ⟨b41, 0, none⟩)), (17, .pointer (some ⟨b41, 2, none⟩))] w64 (by kernel_rfl) ?_
      refine W_val (.slice p32 x22.Raised.length c33) w64 (by kernel_rfl) (E_load (e := 26) (fr := (0, 0)) _ _ false 1 b41 2 [.slice p24 x22.Routes.length c25, .slice p28 x22.Enabled.length c29, .slice p32 x22.Raised.length c33, .slice p36 x22.Cpus.length c37] (.slice p32 x22.Raised.length c33) rfl (by kernel_rfl) (by kernel_rfl) (by kernel_rfl) (M66.blk 0 (b := b41) (o := .cells ⟨[.slice p24 x22.Routes.length c25, .slice p28 x22.Enabled.length c29, .slice p32 x22.Raised.length c33, .slice p36 x22.Cpus.length c37]⟩ 26 (0, 0)) (by kernel_rfl))) ?_
      refine W_run 1 [(1, .int .i64 r63), (2, .pointer (some ⟨b41, 0, none⟩)), (18, .slice p32 x22.Raised.length c33), (19, .int .i64 r63)] w64 (by kernel_rfl) ?_
      obtain ⟨r68, hr68, hm⟩ := gx_bind hm
      refine W_call 52 #[.slice p32 x22.Raised.length c33, .int .i64 r63] (by kernel_rfl) (by kernel_rfl) ?_
      refine (c_l_szBoolS w64 x22.Raised p32 c33 (h34.mem0 M66) r63 hr68).mono ?_
      rintro e_ w69 ⟨rfl, K70⟩
      have M71 := M66.call0 K70
      refine ⟨_, rfl, ?_⟩
      refine W_run 1 [(1, .int .i64 r68), (2, .pointer (some ⟨b41, 0, none⟩))] w69 (by kernel_rfl) ?_
      refine W_nil ?_
      refine N_then ?_
      refine G_seq ?_
      refine G_seq ?_
      refine G_region ?_
      refine W_run 2 [(1, .int .i64 r68), (2, .pointer (some ⟨b41, 0, none⟩)), (22, .bool (decide (r68 < 0)))] w69 (by kernel_rfl) ?_
      refine W_nil ?_
      refine N_then ?_
      rcases gx_bif hm with ⟨hc72, hm⟩ | ⟨hc72, hm⟩
      · refine G_cond_t (b := (decide (r68 < 0))) hc72 (by kernel_rfl) ?_
        refine G_seq ?_
        refine G_region ?_
        refine W_run 1 [(4, .int .i64 (-1))] w69 (by kernel_rfl) ?_
        refine W_nil ?_
        refine N_then ?_
        refine G_ret ?_
        refine N_then_ret ?_
        obtain rfl := Option.some.inj hm
        refine N_ret [.int .i64 (-1)] (RVs_cons (RV_tmp (by kernel_rfl)) RVs_nil) ?_
        exact ⟨rfl, M71.pick [] (by kernel_rfl)⟩
      · refine G_cond_f (b := (decide (r68 < 0))) hc72 (by kernel_rfl) ?_
        refine G_skip ?_
        refine N_then ?_
        refine G_seq ?_
        refine G_region ?_
        refine W_run 1 [(1, .int .i64 r68), (23, .pointer (some ⟨b41, 3, none⟩))] w69 (by kernel_rfl) ?_
        refine W_val (.slice p36 x22.Cpus.length c37) w69 (by kernel_rfl) (E_load (e := 26) (fr := (0, 0)) _ _ false 1 b41 3 [.slice p24 x22.Routes.length c25, .slice p28 x22.Enabled.length c29, .slice p32 x22.Raised.length c33, .slice p36 x22.Cpus.length c37] (.slice p36 x22.Cpus.length c37) rfl (by kernel_rfl) (by kernel_rfl) (by kernel_rfl) (M71.blk 0 (b := b41) (o := .cells ⟨[.slice p24 x22.Routes.length c25, .slice p28 x22.Enabled.length c29, .slice p32 x22.Raised.length c33, .slice p36 x22.Cpus.length c37]⟩ 26 (0, 0)) (by kernel_rfl))) ?_
        refine W_run 1 [(1, .int .i64 r68), (24, .slice p36 x22.Cpus.length c37), (25, .int .i64 r68)] w69 (by kernel_rfl) ?_
        obtain ⟨r216, hr216, hm⟩ := gx_bind hm
        refine W_call 53 #[.slice p36 x22.Cpus.length c37, .int .i64 r68] (by kernel_rfl) (by kernel_rfl) ?_
        refine (c_l_szInterfaceS w69 x22.Cpus p36 c37 (h38.mem0 M71) r68 hr216).mono ?_
        rintro e_ w217 ⟨rfl, K218⟩
        have M219 := M71.call0 K218
        refine ⟨_, rfl, ?_⟩
        refine W_run 1 [(1, .int .i64 r216)] w217 (by kernel_rfl) ?_
        refine W_nil ?_
        refine N_then ?_
        refine G_seq ?_
        refine G_seq ?_
        refine G_region ?_
        refine W_run 2 [(1, .int .i64 r216), (28, .bool (decide (r216 < 0)))] w217 (by kernel_rfl) ?_
        refine W_nil ?_
        refine N_then ?_
        rcases gx_bif hm with ⟨hc220, hm⟩ | ⟨hc220, hm⟩
        · refine G_cond_t (b := (decide (r216 < 0))) hc220 (by kernel_rfl) ?_
          refine G_seq ?_
          refine G_region ?_
          refine W_run 1 [(4, .int .i64 (-1))] w217 (by kernel_rfl) ?_
          refine W_nil ?_
          refine N_then ?_
          refine G_ret ?_
          refine N_then_ret ?_
          obtain rfl := Option.some.inj hm
          refine N_ret [.int .i64 (-1)] (RVs_cons (RV_tmp (by kernel_rfl)) RVs_nil) ?_
          exact ⟨rfl, M219.pick [] (by kernel_rfl)⟩
        · refine G_cond_f (b := (decide (r216 < 0))) hc220 (by kernel_rfl) ?_
          refine G_skip ?_
          refine N_then ?_
          refine G_seq ?_
          refine G_region ?_
          refine W_run 2 [(4, .int .i64 r216)] w217 (by kernel_rfl) ?_
          refine W_nil ?_
          refine N_then ?_
          refine G_ret ?_
          obtain rfl := Option.some.inj hm
          refine N_ret [.int .i64 r216] (RVs_cons (RV_tmp (by kernel_rfl)) RVs_nil) ?_
          exact ⟨rfl, M219.pick [] (by kernel_rfl)⟩
theorem c_l_toRoute (w : World) (x300 : Route) {r : Route} (hm : M.l_toRoute x300 = some r) :
    Calls Tryz.prog 106 #[.agg #[.int .i64 x300.Priority, .int .i64 x300.Target]] w fun e w' => e = .returned (.agg #[.int .i64 r.Priority, .int .i64 r.Target]) ∧ Mem [] w w' [] := by
  unfold M.l_toRoute at hm
  refine C_enter Tryz.func106 rfl (by kernel_rfl) ?_
  have M0 := Mem.refl [] w
  refine G_seq ?_
  refine G_region ?_
  refine W_new (fun b => .pointer (some ⟨b, 0, none⟩)) (.cells ⟨[.int .i64 x300.Priority, .int .i64 x300.Target]⟩ 131 (0, 0)) M0 rfl (by kernel_rfl) (by kernel_rfl) ?_
  intro b302 w303 M304
  refine W_new (fun b => .pointer (some ⟨b, 0, none⟩)) (.cells ⟨[.int .i64 0, .int .i64 0]⟩ 129 (0, 0)) M304 rfl (by kernel_rfl) (by kernel_rfl) ?_
  intro b306 w307 M308
  refine W_nil ?_
  refine N_then ?_
  refine G_seq ?_
  refine G_region ?_
  refine W_new (fun b => .pointer (some ⟨b, 0, none⟩)) (.cells ⟨[.int .i64 0, .int .i64 0]⟩ 129 (0, 0)) M308 rfl (by kernel_rfl) (by kernel_rfl) ?_
  intro b310 w311 M312
  refine W_nil ?_
  refine N_then ?_
  refine G_seq ?_
  refine G_region ?_
  refine W_run 1 [(1, .pointer (some ⟨b302, 0, none⟩)), (2, .pointer (some ⟨b306, 0, none⟩)), (3, .pointer (some ⟨b310, 0, none⟩)), (4, .pointer (some ⟨b302, 0, none⟩))] w311 (by kernel_rfl) ?_
  refine W_val (.int .i64 x300.Priority) w311 (by kernel_rfl) (E_load (e := 131) (fr := (0, 0)) _ _ false 1 b302 0 [.int .i64 x300.Priority, .int .i64 x300.Target] (.int .i64 x300.Priority) rfl (by kernel_rfl) (by kernel_rfl) (by kernel_rfl) (M312.blk 0 (b := b302) (o := .cells ⟨[.int .i64 x300.Priority, .int .i64 x300.Target]⟩ 131 (0, 0)) (by kernel_rfl))) ?_
  refine W_run 1 [(1, .pointer (some ⟨b302, 0, none⟩)), (2, .pointer (some ⟨b306, 0, none⟩)), (3, .pointer (some ⟨b310, 0, none⟩)), (5, .int .i64 x300.Priority), (6, .pointer (some ⟨b310, 0, none⟩))] w311 (by kernel_rfl) ?_
  refine W_store _ _ _ false 1 b310 0 [.int .i64 0, .int .i64 0] 129 (.int .i64 x300.Priority) 2 [.int .i64 x300.Priority, .int .i64 0] M312 (by kernel_rfl) rfl (by kernel_rfl) (by kernel_rfl) (by kernel_rfl) (by kernel_rfl) (by kernel_rfl) (by kernel_rfl) (by kernel_rfl) (by kernel_rfl) ?_
  intro w313 M314
  refine W_nil ?_
  refine N_then ?_
  refine G_seq ?_
  refine G_region ?_
  refine W_run 1 [(2, .pointer (some ⟨b306, 0, none⟩)), (3, .pointer (some ⟨b310, 0, none⟩)), (7, .pointer (some ⟨b302, 1, none⟩))] w313 (by kernel_rfl) ?_
  refine W_val (.int .i64 x300.Target) w313 (by kernel_rfl) (E_load (e := 131) (fr := (0, 0)) _ _ false 1 b302 1 [.int .i64 x300.Priority, .int .i64 x300.Target] (.int .i64 x300.Target) rfl (by kernel_rfl) (by kernel_rfl) (by kernel_rfl) (M314.blk 0 (b := b302) (o := .cells ⟨[.int .i64 x300.Priority, .int .i64 x300.Target]⟩ 131 (0, 0)) (by kernel_rfl))) ?_
  refine W_run 1 [(2, .pointer (some ⟨b306, 0, none⟩)), (3, .pointer (some ⟨b310, 0, none⟩)), (8, .int .i64 x300.Target), (9, .pointer (some ⟨b310, 1, none⟩))] w313 (by kernel_rfl) ?_
  refine W_store _ _ _ false 1 b310 1 [.int .i64 x300.Priority, .int .i64 0] 129 (.int .i64 x300.Target) 2 [.int .i64 x300.Priority, .int .i64 x300.Target] M314 (by kernel_rfl) rfl (by kernel_rfl) (by kernel_rfl) (by kernel_rfl) (by kernel_rfl) (by kernel_rfl) (by kernel_rfl) (by kernel_rfl) (by kernel_rfl) ?_
  intro w315 M316
  refine W_nil ?_
  refine N_then ?_
  refine G_seq ?_
  refine G_region ?_
  refine W_val (.agg #[.int .i64 x300.Priority, .int .i64 x300.Target]) w315 (by kernel_rfl) (E_load (e := 129) (fr := (0, 0)) _ _ true 2 b310 0 [.int .i64 x300.Priority, .int .i64 x300.Target] (.agg #[.int .i64 x300.Priority, .int .i64 x300.Target]) rfl (by kernel_rfl) (by kernel_rfl) (by kernel_rfl) (M316.blk 2 (b := b310) (o := .cells ⟨[.int .i64 x300.Priority, .int .i64 x300.Target]⟩ 129 (0, 0)) (by kernel_rfl))) ?_
  refine W_store _ _ _ true 2 b306 0 [.int .i64 0, .int .i64 0] 129 (.agg #[.int .i64 x300.Priority, .int .i64 x300.Target]) 1 [.int .i64 x300.Priority, .int .i64 x300.Target] M316 (by kernel_rfl) rfl (by kernel_rfl) (by kernel_rfl) (by kernel_rfl) (by kernel_rfl) (by kernel_rfl) (by kernel_rfl) (by kernel_rfl) (by kernel_rfl) ?_
  intro w317 M318
  refine W_nil ?_
  refine N_then ?_
  refine G_ret ?_
  obtain rfl := Option.some.inj hm
  refine N_ret [.agg #[.int .i64 x300.Priority, .int .i64 x300.Target]] (RVs_cons (RV_cell (g := true) (k := 2) (b := b306) (off := 0) (cs := [.int .i64 x300.Priority, .int .i64 x300.Target]) (e := 129) (fr := (0, 0)) (v := .agg #[.int .i64 x300.Priority, .int .i64 x300.Target]) (M318.blk 1 (b := b306) (o := .cells ⟨[.int .i64 x300.Priority, .int .i64 x300.Target]⟩ 129 (0, 0)) (by kernel_rfl)) (by kernel_rfl) (by kernel_rfl) (by kernel_rfl)) RVs_nil) ?_
  exact ⟨rfl, M318.pick [] (by kernel_rfl)⟩
theorem c_l_toRouteS (w : World) (x280 : List Route) (p282 : Option Addr) (c283 : Nat) (h284 : rdS encRoute w x280 p282 c283) {r : (List Route)} (hm : M.l_toRouteS x280 = some r) :
    Calls Tryz.prog 55 #[.slice p282 x280.length c283] w fun e w' => ∃ (p286 : Option Addr) (c287 : Nat) (sg288 : Seg), e = .returned (.slice p286 r.length c287) ∧ ownS encRoute r p286 c287 sg288 ∧ Mem [] w w' [sg288] := by
  unfold M.l_toRouteS at hm
  refine C_enter Tryz.func55 rfl (by kernel_rfl) ?_
  have M0 := Mem.refl [] w
  refine G_seq ?_
  refine G_region ?_
  refine W_run 1 [(0, .slice p282 x280.length c283)] w (by kernel_rfl) ?_
  refine W_nil ?_
  refine N_then ?_
  refine G_seq ?_
  refine G_region ?_
  refine W_run 2 [(0, .slice p282 x280.length c283), (6, .int .i64 (x280.length : Int))] w (by kernel_rfl) ?_
  obtain ⟨mk290, hmk290, hm⟩ := gx_bind hm
  refine W_make (E := encRoute) _ _ _ (x280.length : Int) 16 [.int .i64 0, .int .i64 0] ((⟨0, 0⟩ : Route) : Route) M0 (by kernel_rfl) rfl (by kernel_rfl) (by kernel_rfl) (by kernel_rfl) (by kernel_rfl) (by kernel_rfl) hmk290 ?_
  intro p291 c292 sg293 w294 ho295 M296
  refine W_run 1 [(0, .slice p282 x280.length c283), (3, .slice p291 mk290.length c292)] w294 (by kernel_rfl) ?_
  refine W_nil ?_
  refine N_then ?_
  refine G_seq ?_
  refine G_seq ?_
  refine G_region ?_
  refine W_run 1 [(0, .slice p282 x280.length c283), (3, .slice p291 mk290.length c292), (4, .int .i64 0)] w294 (by kernel_rfl) ?_
  refine W_nil ?_
  refine N_then ?_
  obtain ⟨out348, hw349, hmo350⟩ := gx_bind hm
  refine G_meet (fun a w' => ∃ (sg354 : Seg), ownS encRoute out348 p291 c292 sg354 ∧ Mem [] w w' [sg354] ∧ Sat Tryz.f55.ntmps [(3, .slice p291 out348.length c292)] a) ?_ ?_
  · refine G_block ?_
    refine G_while (σ := Int × List Route) (ρ := List Route) (fun s341 a w' => ∃ (sg351 : Seg), ownS encRoute s341.2 p291 c292 sg351 ∧ Mem [] w w' [sg351] ∧ Sat Tryz.f55.ntmps [(0, .slice p282 x280.length c283), (3, .slice p291 s341.2.length c292), (4, .int .i64 s341.1)] a) hw349 (fun a ha => ⟨sg293, ho295, M296.pick [0] (by kernel_rfl), ha.sub (by kernel_rfl)⟩) ?_
    clear hm
    intro s341 x342 hm hout343 a344 w345 ⟨sg351, ho352, M346, hS347⟩
    refine G_use hS347 ?_
    refine G_seq ?_
    refine G_seq ?_
    refine G_region ?_
    refine W_run 4 [(0, .slice p282 x280.length c283), (3, .slice p291 s341.2.length c292), (4, .int .i64 s341.1), (11, .bool (decide (s341.1 < (x280.length : Int))))] w345 (by kernel_rfl) ?_
    refine W_nil ?_
    refine N_then ?_
    rcases gx_bif hm with ⟨hc356, hm⟩ | ⟨hc356, hm⟩
    · refine G_cond_t (b := (decide (s341.1 < (x280.length : Int)))) hc356 (by kernel_rfl) ?_
      refine G_skip ?_
      refine N_then ?_
      refine G_seq ?_
      refine G_block ?_
      refine G_region ?_
      refine W_run 4 [(0, .slice p282 x280.length c283), (3, .slice p291 s341.2.length c292), (4, .int .i64 s341.1), (14, .slice p291 s341.2.length c292), (15, .int .i64 s341.1), (16, .slice p282 x280.length c283), (17, .int .i64 s341.1)] w345 (by kernel_rfl) ?_
      obtain ⟨y357, hy357, hm⟩ := gx_bind hm
      refine W_val (elemP p282 (s341.1.toNat * 2)) w345 (by kernel_rfl) (E_index (E := encRoute) _ _ _ x280.length c283 .i64 s341.1 2 (y := y357) rfl (by kernel_rfl) (by kernel_rfl) (by kernel_rfl) (h284.mem0 M346) rfl hy357) ?_
      refine W_val (.agg #[.int .i64 y357.Priority, .int .i64 y357.Target]) w345 (by kernel_rfl) (E_loadE (E := encRoute) _ _ true 2 s341.1 0 (s341.1.toNat * 2) y357 (.agg #[.int .i64 y357.Priority, .int .i64 y357.Target]) rfl (by kernel_rfl) (by kernel_rfl) (by kernel_rfl) (h284.mem0 M346) hy357 rfl) ?_
      obtain ⟨r358, hr358, hm⟩ := gx_bind hm
      refine W_call 106 #[.agg #[.int .i64 y357.Priority, .int .i64 y357.Target]] (by kernel_rfl) (by kernel_rfl) ?_
      refine (c_l_toRoute w345 y357 hr358).mono ?_
      rintro e_ w359 ⟨rfl, K360⟩
      have M361 := M346.call0 K360
      refine ⟨_, rfl, ?_⟩
      obtain ⟨y362, hy362, hm⟩ := gx_bind hm
      refine W_val (elemP p291 (s341.1.toNat * 2)) w359 (by kernel_rfl) (E_index (E := encRoute) _ _ _ s341.2.length c292 .i64 s341.1 2 (y := y362) rfl (by kernel_rfl) (by kernel_rfl) (by kernel_rfl) (ho352.rd M361 0 (by kernel_rfl)) rfl hy362) ?_
      refine W_storeE (E := encRoute) _ _ _ true 2 s341.1.toNat 0 (s341.1.toNat * 2) y362 r358 (.agg #[.int .i64 r358.Priority, .int .i64 r358.Target]) 0 M361 ho352 (by kernel_rfl) (by kernel_rfl) rfl (by kernel_rfl) (by kernel_rfl) (by kernel_rfl) (by kernel_rfl) (by kernel_rfl) (by kernel_rfl) (by kernel_rfl) (gxIdx_spec hy362).2 rfl ?_
      intro w363 sg365 ho366 M364
      refine W_conv 3 (.slice p291 s341.2.length c292) (.slice p291 (s341.2.set s341.1.toNat r358).length c292) (by kernel_rfl) (by rw [@List.length_set _ s341.2 s341.1.toNat r358]) ?_
      refine W_conv 14 (.slice p291 s341.2.length c292) (.slice p291 (s341.2.set s341.1.toNat r358).length c292) (by kernel_rfl) (by rw [@List.length_set _ s341.2 s341.1.toNat r358]) ?_
      refine W_nil ?_
      refine N_block ?_
      refine N_then ?_
      refine G_region ?_
      refine W_run 3 [(0, .slice p282 x280.length c283), (3, .slice p291 (s341.2.set s341.1.toNat r358).length c292), (4, .int .i64 (w64 (s341.1 + 1)))] w363 (by kernel_rfl) ?_
      refine W_nil ?_
      obtain rfl := Option.some.inj hm
      exact N_loop fun a ha => ⟨_, rfl, sg365, ho366, M364.pick [0] (by kernel_rfl), ha.sub (by kernel_rfl)⟩
    · refine G_cond_f (b := (decide (s341.1 < (x280.length : Int)))) hc356 (by kernel_rfl) ?_
      refine G_exit ?_
      refine N_then_exit ?_
      refine N_then_exit ?_
      refine N_block_eq ?_
      obtain rfl := Option.some.inj hm
      obtain rfl := hout343 _ rfl
      exact N_meet fun a ha => ⟨sg351, ho352, M346.pick [0] (by kernel_rfl), ha.sub (by kernel_rfl)⟩
  · intro a367 w368 ⟨sg354, ho355, M369, hS370⟩
    refine N_use hS370 ?_
    have hm := hmo350
    refine N_then ?_
    refine G_seq ?_
    refine G_region ?_
    refine W_run 2 [(2, .slice p291 out348.length c292)] w368 (by kernel_rfl) ?_
    refine W_nil ?_
    refine N_then ?_
    refine G_ret ?_
    obtain rfl := Option.some.inj hm
    refine N_ret [.slice p291 out348.length c292] (RVs_cons (RV_tmp (by kernel_rfl)) RVs_nil) ?_
    exact ⟨p291, c292, sg354, rfl, ho355, M369.pick [0] (by kernel_rfl)⟩
theorem c_l_toBoolS (w : World) (x382 : List Bool) (p384 : Option Addr) (c385 : Nat) (h386 : rdS Gx.encB w x382 p384 c385) {r : (List Bool)} (hm : M.l_toBoolS x382 = some r) :
    Calls Tryz.prog 56 #[.slice p384 x382.length c385] w fun e w' => ∃ (p388 : Option Addr) (c389 : Nat) (sg390 : Seg), e = .returned (.slice p388 r.length c389) ∧ ownS Gx.encB r p388 c389 sg390 ∧ Mem [] w w' [sg390] := by
  unfold M.l_toBoolS at hm
  refine C_enter Tryz.func56 rfl (by kernel_rfl) ?_
  have M0 := Mem.refl [] w
  refine G_seq ?_
  refine G_region ?_
  refine W_run 1 [(0, .slice p384 x382.length c385)] w (by kernel_rfl) ?_
  refine W_nil ?_
  refine N_then ?_
  refine G_seq ?_
  refine G_region ?_
  refine W_run 2 [(0, .slice p384 x382.length c385), (6, .int .i64 (x382.length : Int))] w (by kernel_rfl) ?_
  obtain ⟨mk392, hmk392, hm⟩ := gx_bind hm
  refine W_make (E := Gx.encB) _ _ _ (x382.length : Int) 1 [.bool false] (false : Bool) M0 (by kernel_rfl) rfl (by kernel_rfl) (by kernel_rfl) (by kernel_rfl) (by kernel_rfl) (by kernel_rfl) hmk392 ?_
  intro p393 c394 sg395 w396 ho397 M398
  refine W_run 1 [(0, .slice p384 x382.length c385), (3, .slice p393 mk392.length c394)] w396 (by kernel_rfl) ?_
  refine W_nil ?_
  refine N_then ?_
  refine G_seq ?_
  refine G_seq ?_
  refine G_region ?_
  refine W_run 1 [(0, .slice p384 x382.length c385), (3, .slice p393 mk392.length c394), (4, .int .i64 0)] w396 (by kernel_rfl) ?_
  refine W_nil ?_
  refine N_then ?_
  obtain ⟨out423, hw424, hmo425⟩ := gx_bind hm
  refine G_meet (fun a w' => ∃ (sg429 : Seg), ownS Gx.encB out423 p393 c394 sg429 ∧ Mem [] w w' [sg429] ∧ Sat Tryz.f56.ntmps [(3, .slice p393 out423.length c394)] a) ?_ ?_
  · refine G_block ?_
    refine G_while (σ := Int × List Bool) (ρ := List Bool) (fun s416 a w' => ∃ (sg426 : Seg), ownS Gx.encB s416.2 p393 c394 sg426 ∧ Mem [] w w' [sg426] ∧ Sat Tryz.f56.ntmps [(0, .slice p384 x382.length c385), (3, .slice p393 s416.2.length c394), (4, .int .i64 s416.1)] a) hw424 (fun a ha => ⟨sg395, ho397, M398.pick [0] (by kernel_rfl), ha.sub (by kernel_rfl)⟩) ?_
    clear hm
    intro s416 x417 hm hout418 a419 w420 ⟨sg426, ho427, M421, hS422⟩
    refine G_use hS422 ?_
    refine G_seq ?_
    refine G_seq ?_
    refine G_region ?_
    refine W_run 4 [(0, .slice p384 x382.length c385), (3, .slice p393 s416.2.length c394), (4, .int .i64 s416.1), (11, .bool (decide (s416.1 < (x382.length : Int))))] w420 (by kernel_rfl) ?_
    refine W_nil ?_
    refine N_then ?_
    rcases gx_bif hm with ⟨hc431, hm⟩ | ⟨hc431, hm⟩
    · refine G_cond_t (b := (decide (s416.1 < (x382.length : Int)))) hc431 (by kernel_rfl) ?_
      refine G_skip ?_
      refine N_then ?_
      refine G_seq ?_
      refine G_block ?_
      refine G_region ?_
      refine W_run 4 [(0, .slice p384 x382.length c385), (3, .slice p393 s416.2.length c394), (4, .int .i64 s416.1), (14, .slice p393 s416.2.length c394), (15, .int .i64 s416.1), (16, .slice p384 x382.length c385), (17, .int .i64 s416.1)] w420 (by kernel_rfl) ?_
      obtain ⟨y432, hy432, hm⟩ := gx_bind hm
      refine W_val (elemP p384 (s416.1.toNat * 1)) w420 (by kernel_rfl) (E_index (E := Gx.encB) _ _ _ x382.length c385 .i64 s416.1 1 (y := y432) rfl (by kernel_rfl) (by kernel_rfl) (by kernel_rfl) (h386.mem0 M421) rfl hy432) ?_
      refine W_val (.bool y432) w420 (by kernel_rfl) (E_loadE (E := Gx.encB) _ _ false 1 s416.1 0 (s416.1.toNat * 1) y432 (.bool y432) rfl (by kernel_rfl) (by kernel_rfl) (by kernel_rfl) (h386.mem0 M421) hy432 rfl) ?_
      obtain ⟨y433, hy433, hm⟩ := gx_bind hm
      refine W_val (elemP p393 (s416.1.toNat * 1)) w420 (by kernel_rfl) (E_index (E := Gx.encB) _ _ _ s416.2.length c394 .i64 s416.1 1 (y := y433) rfl (by kernel_rfl) (by kernel_rfl) (by kernel_rfl) (ho427.rd M421 0 (by kernel_rfl)) rfl hy433) ?_
      refine W_storeE (E := Gx.encB) _ _ _ false 1 s416.1.toNat 0 (s416.1.toNat * 1) y433 y432 (.bool y432) 0 M421 ho427 (by kernel_rfl) (by kernel_rfl) rfl (by kernel_rfl) (by kernel_rfl) (by kernel_rfl) (by kernel_rfl) (by kernel_rfl) (by kernel_rfl) (by kernel_rfl) (gxIdx_spec hy433).2 rfl ?_
      intro w434 sg436 ho437 M435
      refine W_conv 3 (.slice p393 s416.2.length c394) (.slice p393 (s416.2.set s416.1.toNat y432).length c394) (by kernel_rfl) (by rw [@List.length_set _ s416.2 s416.1.toNat y432]) ?_
      refine W_conv 14 (.slice p393 s416.2.length c394) (.slice p393 (s416.2.set s416.1.toNat y432).length c394) (by kernel_rfl) (by rw [@List.length_set _ s416.2 s416.1.toNat y432]) ?_
      refine W_nil ?_
      refine N_block ?_
      refine N_then ?_
      refine G_region ?_
      refine W_run 3 [(0, .slice p384 x382.length c385), (3, .slice p393 (s416.2.set s416.1.toNat y432).length c394), (4, .int .i64 (w64 (s416.1 + 1)))] w434 (by kernel_rfl) ?_
      refine W_nil ?_
      obtain rfl := Option.some.inj hm
      exact N_loop fun a ha => ⟨_, rfl, sg436, ho437, M435.pick [0] (by kernel_rfl), ha.sub (by kernel_rfl)⟩
    · refine G_cond_f (b := (decide (s416.1 < (x382.length : Int)))) hc431 (by kernel_rfl) ?_
      refine G_exit ?_
      refine N_then_exit ?_
      refine N_then_exit ?_
      refine N_block_eq ?_
      obtain rfl := Option.some.inj hm
      obtain rfl := hout418 _ rfl
      exact N_meet fun a ha => ⟨sg426, ho427, M421.pick [0] (by kernel_rfl), ha.sub (by kernel_rfl)⟩
  · intro a438 w439 ⟨sg429, ho430, M440, hS441⟩
    refine N_use hS441 ?_
    have hm := hmo425
    refine N_then ?_
    refine G_seq ?_
    refine G_region ?_
    refine W_run 2 [(2, .slice p393 out423.length c394)] w439 (by kernel_rfl) ?_
    refine W_nil ?_
    refine N_then ?_
    refine G_ret ?_
    obtain rfl := Option.some.inj hm
    refine N_ret [.slice p393 out423.length c394] (RVs_cons (RV_tmp (by kernel_rfl)) RVs_nil) ?_
    exact ⟨p393, c394, sg429, rfl, ho430, M440.pick [0] (by kernel_rfl)⟩
theorem c_l_toIntS (w : World) (x544 : List Int) (p546 : Option Addr) (c547 : Nat) (h548 : rdS Gx.encI w x544 p546 c547) {r : (List Int)} (hm : M.l_toIntS x544 = some r) :
    Calls Tryz.prog 157 #[.slice p546 x544.length c547] w fun e w' => ∃ (p550 : Option Addr) (c551 : Nat) (sg552 : Seg), e = .returned (.slice p550 r.length c551) ∧ ownS Gx.encI r p550 c551 sg552 ∧ Mem [] w w' [sg552] := by
  unfold M.l_toIntS at hm
  refine C_enter Tryz.func157 rfl (by kernel_rfl) ?_
  have M0 := Mem.refl [] w
  refine G_seq ?_
  refine G_region ?_
  refine W_run 1 [(0, .slice p546 x544.length c547)] w (by kernel_rfl) ?_
  refine W_nil ?_
  refine N_then ?_
  refine G_seq ?_
  refine G_region ?_
  refine W_run 2 [(0, .slice p546 x544.length c547), (6, .int .i64 (x544.length : Int))] w (by kernel_rfl) ?_
  obtain ⟨mk554, hmk554, hm⟩ := gx_bind hm
  refine W_make (E := Gx.encI) _ _ _ (x544.length : Int) 8 [.int .i64 0] (0 : Int) M0 (by kernel_rfl) rfl (by kernel_rfl) (by kernel_rfl) (by kernel_rfl) (by kernel_rfl) (by kernel_rfl) hmk554 ?_
  intro p555 c556 sg557 w558 ho559 M560
  refine W_run 1 [(0, .slice p546 x544.length c547), (3, .slice p555 mk554.length c556)] w558 (by kernel_rfl) ?_
  refine W_nil ?_
  refine N_then ?_
  refine G_seq ?_
  refine G_seq ?_
  refine G_region ?_
  refine W_run 1 [(0, .slice p546 x544.length c547), (3, .slice p555 mk554.length c556), (4, .int .i64 0)] w558 (by kernel_rfl) ?_
  refine W_nil ?_
  refine N_then ?_
  obtain ⟨out585, hw586, hmo587⟩ := gx_bind hm
  refine G_meet (fun a w' => ∃ (sg591 : Seg), ownS Gx.encI out585 p555 c556 sg591 ∧ Mem [] w w' [sg591] ∧ Sat Tryz.f157.ntmps [(3, .slice p555 out585.length c556)] a) ?_ ?_
  · refine G_block ?_
    refine G_while (σ := Int × List Int) (ρ := List Int) (fun s578 a w' => ∃ (sg588 : Seg), ownS Gx.encI s578.2 p555 c556 sg588 ∧ Mem [] w w' [sg588] ∧ Sat Tryz.f157.ntmps [(0, .slice p546 x544.length c547), (3, .slice p555 s578.2.length c556), (4, .int .i64 s578.1)] a) hw586 (fun a ha => ⟨sg557, ho559, M560.pick [0] (by kernel_rfl), ha.sub (by kernel_rfl)⟩) ?_
    clear hm
    intro s578 x579 hm hout580 a581 w582 ⟨sg588, ho589, M583, hS584⟩
    refine G_use hS584 ?_
    refine G_seq ?_
    refine G_seq ?_
    refine G_region ?_
    refine W_run 4 [(0, .slice p546 x544.length c547), (3, .slice p555 s578.2.length c556), (4, .int .i64 s578.1), (11, .bool (decide (s578.1 < (x544.length : Int))))] w582 (by kernel_rfl) ?_
    refine W_nil ?_
    refine N_then ?_
    rcases gx_bif hm with ⟨hc593, hm⟩ | ⟨hc593, hm⟩
    · refine G_cond_t (b := (decide (s578.1 < (x544.length : Int)))) hc593 (by kernel_rfl) ?_
      refine G_skip ?_
      refine N_then ?_
      refine G_seq ?_
      refine G_block ?_
      refine G_region ?_
      refine W_run 4 [(0, .slice p546 x544.length c547), (3, .slice p555 s578.2.length c556), (4, .int .i64 s578.1), (14, .slice p555 s578.2.length c556), (15, .int .i64 s578.1), (16, .slice p546 x544.length c547), (17, .int .i64 s578.1)] w582 (by kernel_rfl) ?_
      obtain ⟨y594, hy594, hm⟩ := gx_bind hm
      refine W_val (elemP p546 (s578.1.toNat * 1)) w582 (by kernel_rfl) (E_index (E := Gx.encI) _ _ _ x544.length c547 .i64 s578.1 1 (y := y594) rfl (by kernel_rfl) (by kernel_rfl) (by kernel_rfl) (h548.mem0 M583) rfl hy594) ?_
      refine W_val (.int .i64 y594) w582 (by kernel_rfl) (E_loadE (E := Gx.encI) _ _ false 1 s578.1 0 (s578.1.toNat * 1) y594 (.int .i64 y594) rfl (by kernel_rfl) (by kernel_rfl) (by kernel_rfl) (h548.mem0 M583) hy594 rfl) ?_
      obtain ⟨y595, hy595, hm⟩ := gx_bind hm
      refine W_val (elemP p555 (s578.1.toNat * 1)) w582 (by kernel_rfl) (E_index (E := Gx.encI) _ _ _ s578.2.length c556 .i64 s578.1 1 (y := y595) rfl (by kernel_rfl) (by kernel_rfl) (by kernel_rfl) (ho589.rd M583 0 (by kernel_rfl)) rfl hy595) ?_
      refine W_storeE (E := Gx.encI) _ _ _ false 1 s578.1.toNat 0 (s578.1.toNat * 1) y595 y594 (.int .i64 y594) 0 M583 ho589 (by kernel_rfl) (by kernel_rfl) rfl (by kernel_rfl) (by kernel_rfl) (by kernel_rfl) (by kernel_rfl) (by kernel_rfl) (by kernel_rfl) (by kernel_rfl) (gxIdx_spec hy595).2 rfl ?_
      intro w596 sg598 ho599 M597
      refine W_conv 3 (.slice p555 s578.2.length c556) (.slice p555 (s578.2.set s578.1.toNat y594).length c556) (by kernel_rfl) (by rw [@List.length_set _ s578.2 s578.1.toNat y594]) ?_
      refine W_conv 14 (.slice p555 s578.2.length c556) (.slice p555 (s578.2.set s578.1.toNat y594).length c556) (by kernel_rfl) (by rw [@List.length_set _ s578.2 s578.1.toNat y594]) ?_
      refine W_nil ?_
      refine N_block ?_
      refine N_then ?_
      refine G_region ?_
      refine W_run 3 [(0, .slice p546 x544.length c547), (3, .slice p555 (s578.2.set s578.1.toNat y594).length c556), (4, .int .i64 (w64 (s578.1 + 1)))] w596 (by kernel_rfl) ?_
      refine W_nil ?_
      obtain rfl := Option.some.inj hm
      exact N_loop fun a ha => ⟨_, rfl, sg598, ho599, M597.pick [0] (by kernel_rfl), ha.sub (by kernel_rfl)⟩
    · refine G_cond_f (b := (decide (s578.1 < (x544.length : Int)))) hc593 (by kernel_rfl) ?_
      refine G_exit ?_
      refine N_then_exit ?_
      refine N_then_exit ?_
      refine N_block_eq ?_
      obtain rfl := Option.some.inj hm
      obtain rfl := hout580 _ rfl
      exact N_meet fun a ha => ⟨sg588, ho589, M583.pick [0] (by kernel_rfl), ha.sub (by kernel_rfl)⟩
  · intro a600 w601 ⟨sg591, ho592, M602, hS603⟩
    refine N_use hS603 ?_
    have hm := hmo587
    refine N_then ?_
    refine G_seq ?_
    refine G_region ?_
    refine W_run 2 [(2, .slice p555 out585.length c556)] w601 (by kernel_rfl) ?_
    refine W_nil ?_
    refine N_then ?_
    refine G_ret ?_
    obtain rfl := Option.some.inj hm
    refine N_ret [.slice p555 out585.length c556] (RVs_cons (RV_tmp (by kernel_rfl)) RVs_nil) ?_
    exact ⟨p555, c556, sg591, rfl, ho592, M602.pick [0] (by kernel_rfl)⟩
theorem c_l_toSlot (w : World) (x668 : Slot) {r : Slot} (hm : M.l_toSlot x668 = some r) :
    Calls Tryz.prog 237 #[.agg #[.int .i64 x668.State, .int .i64 x668.Irq, .int .i64 x668.Priority]] w fun e w' => e = .returned (.agg #[.int .i64 r.State, .int .i64 r.Irq, .int .i64 r.Priority]) ∧ Mem [] w w' [] := by
  unfold M.l_toSlot at hm
  refine C_enter Tryz.func237 rfl (by kernel_rfl) ?_
  have M0 := Mem.refl [] w
  refine G_seq ?_
  refine G_region ?_
  refine W_new (fun b => .pointer (some ⟨b, 0, none⟩)) (.cells ⟨[.int .i64 x668.State, .int .i64 x668.Irq, .int .i64 x668.Priority]⟩ 225 (0, 0)) M0 rfl (by kernel_rfl) (by kernel_rfl) ?_
  intro b670 w671 M672
  refine W_new (fun b => .pointer (some ⟨b, 0, none⟩)) (.cells ⟨[.int .i64 0, .int .i64 0, .int .i64 0]⟩ 117 (0, 0)) M672 rfl (by kernel_rfl) (by kernel_rfl) ?_
  intro b674 w675 M676
  refine W_nil ?_
  refine N_then ?_
  refine G_seq ?_
  refine G_region ?_
  refine W_new (fun b => .pointer (some ⟨b, 0, none⟩)) (.cells ⟨[.int .i64 0, .int .i64 0, .int .i64 0]⟩ 117 (0, 0)) M676 rfl (by kernel_rfl) (by kernel_rfl) ?_
  intro b678 w679 M680
  refine W_nil ?_
  refine N_then ?_
  refine G_seq ?_
  refine G_region ?_
  refine W_run 1 [(1, .pointer (some ⟨b670, 0, none⟩)), (2, .pointer (some ⟨b674, 0, none⟩)), (3, .pointer (some ⟨b678, 0, none⟩)), (4, .pointer (some ⟨b670, 0, none⟩))] w679 (by kernel_rfl) ?_
  refine W_val (.int .i64 x668.State) w679 (by kernel_rfl) (E_load (e := 225) (fr := (0, 0)) _ _ false 1 b670 0 [.int .i64 x668.State, .int .i64 x668.Irq, .int .i64 x668.Priority] (.int .i64 x668.State) rfl (by kernel_rfl) (by kernel_rfl) (by kernel_rfl) (M680.blk 0 (b := b670) (o := .cells ⟨[.int .i64 x668.State, .int .i64 x668.Irq, .int .i64 x668.Priority]⟩ 225 (0, 0)) (by kernel_rfl))) ?_
  refine W_run 1 [(1, .pointer (some ⟨b670, 0, none⟩)), (2, .pointer (some ⟨b674, 0, none⟩)), (3, .pointer (some ⟨b678, 0, none⟩)), (5, .int .i64 x668.State), (6, .pointer (some ⟨b678, 0, none⟩))] w679 (by kernel_rfl) ?_
  refine W_store _ _ _ false 1 b678 0 [.int .i64 0, .int .i64 0, .int .i64 0] 117 (.int .i64 x668.State) 2 [.int .i64 x668.State, .int .i64 0, .int .i64 0] M680 (by kernel_rfl) rfl (by kernel_rfl) (by kernel_rfl) (by kernel_rfl) (by kernel_rfl) (by kernel_rfl) (by kernel_rfl) (by kernel_rfl) (by kernel_rfl) ?_
  intro w681 M682
  refine W_nil ?_
  refine N_then ?_
  refine G_seq ?_
  refine G_region ?_
  refine W_run 1 [(1, .pointer (some ⟨b670, 0, none⟩)), (2, .pointer (some ⟨b674, 0, none⟩)), (3, .pointer (some ⟨b678, 0, none⟩)), (7, .pointer (some ⟨b670, 1, none⟩))] w681 (by kernel_rfl) ?_
  refine W_val (.int .i64 x668.Irq) w681 (by kernel_rfl) (E_load (e := 225) (fr := (0, 0)) _ _ false 1 b670 1 [.int .i64 x668.State, .int .i64 x668.Irq, .int .i64 x668.Priority] (.int .i64 x668.Irq) rfl (by kernel_rfl) (by kernel_rfl) (by kernel_rfl) (M682.blk 0 (b := b670) (o := .cells ⟨[.int .i64 x668.State, .int .i64 x668.Irq, .int .i64 x668.Priority]⟩ 225 (0, 0)) (by kernel_rfl))) ?_
  refine W_run 1 [(1, .pointer (some ⟨b670, 0, none⟩)), (2, .pointer (some ⟨b674, 0, none⟩)), (3, .pointer (some ⟨b678, 0, none⟩)), (8, .int .i64 x668.Irq), (9, .pointer (some ⟨b678, 1, none⟩))] w681 (by kernel_rfl) ?_
  refine W_store _ _ _ false 1 b678 1 [.int .i64 x668.State, .int .i64 0, .int .i64 0] 117 (.int .i64 x668.Irq) 2 [.int .i64 x668.State, .int .i64 x668.Irq, .int .i64 0] M682 (by kernel_rfl) rfl (by kernel_rfl) (by kernel_rfl) (by kernel_rfl) (by kernel_rfl) (by kernel_rfl) (by kernel_rfl) (by kernel_rfl) (by kernel_rfl) ?_
  intro w683 M684
  refine W_nil ?_
  refine N_then ?_
  refine G_seq ?_
  refine G_region ?_
  refine W_run 1 [(2, .pointer (some ⟨b674, 0, none⟩)), (3, .pointer (some ⟨b678, 0, none⟩)), (10, .pointer (some ⟨b670, 2, none⟩))] w683 (by kernel_rfl) ?_
  refine W_val (.int .i64 x668.Priority) w683 (by kernel_rfl) (E_load (e := 225) (fr := (0, 0)) _ _ false 1 b670 2 [.int .i64 x668.State, .int .i64 x668.Irq, .int .i64 x668.Priority] (.int .i64 x668.Priority) rfl (by kernel_rfl) (by kernel_rfl) (by kernel_rfl) (M684.blk 0 (b := b670) (o := .cells ⟨[.int .i64 x668.State, .int .i64 x668.Irq, .int .i64 x668.Priority]⟩ 225 (0, 0)) (by kernel_rfl))) ?_
  refine W_run 1 [(2, .pointer (some ⟨b674, 0, none⟩)), (3, .pointer (some ⟨b678, 0, none⟩)), (11, .int .i64 x668.Priority), (12, .pointer (some ⟨b678, 2, none⟩))] w683 (by kernel_rfl) ?_
  refine W_store _ _ _ false 1 b678 2 [.int .i64 x668.State, .int .i64 x668.Irq, .int .i64 0] 117 (.int .i64 x668.Priority) 2 [.int .i64 x668.State, .int .i64 x668.Irq, .int .i64 x668.Priority] M684 (by kernel_rfl) rfl (by kernel_rfl) (by kernel_rfl) (by kernel_rfl) (by kernel_rfl) (by kernel_rfl) (by kernel_rfl) (by kernel_rfl) (by kernel_rfl) ?_
  intro w685 M686
  refine W_nil ?_
  refine N_then ?_
  refine G_seq ?_
  refine G_region ?_
  refine W_val (.agg #[.int .i64 x668.State, .int .i64 x668.Irq, .int .i64 x668.Priority]) w685 (by kernel_rfl) (E_load (e := 117) (fr := (0, 0)) _ _ true 3 b678 0 [.int .i64 x668.State, .int .i64 x668.Irq, .int .i64 x668.Priority] (.agg #[.int .i64 x668.State, .int .i64 x668.Irq, .int .i64 x668.Priority]) rfl (by kernel_rfl) (by kernel_rfl) (by kernel_rfl) (M686.blk 2 (b := b678) (o := .cells ⟨[.int .i64 x668.State, .int .i64 x668.Irq, .int .i64 x668.Priority]⟩ 117 (0, 0)) (by kernel_rfl))) ?_
  refine W_store _ _ _ true 3 b674 0 [.int .i64 0, .int .i64 0, .int .i64 0] 117 (.agg #[.int .i64 x668.State, .int .i64 x668.Irq, .int .i64 x668.Priority]) 1 [.int .i64 x668.State, .int .i64 x668.Irq, .int .i64 x668.Priority] M686 (by kernel_rfl) rfl (by kernel_rfl) (by kernel_rfl) (by kernel_rfl) (by kernel_rfl) (by kernel_rfl) (by kernel_rfl) (by kernel_rfl) (by kernel_rfl) ?_
  intro w687 M688
  refine W_nil ?_
  refine N_then ?_
  refine G_ret ?_
  obtain rfl := Option.some.inj hm
  refine N_ret [.agg #[.int .i64 x668.State, .int .i64 x668.Irq, .int .i64 x668.Priority]] (RVs_cons (RV_cell (g := true) (k := 3) (b := b674) (off := 0) (cs := [.int .i64 x668.State, .int .i64 x668.Irq, .int .i64 x668.Priority]) (e := 117) (fr := (0, 0)) (v := .agg #[.int .i64 x668.State, .int .i64 x668.Irq, .int .i64 x668.Priority]) (M688.blk 1 (b := b674) (o := .cells ⟨[.int .i64 x668.State, .int .i64 x668.Irq, .int .i64 x668.Priority]⟩ 117 (0, 0)) (by kernel_rfl)) (by kernel_rfl) (by kernel_rfl) (by kernel_rfl)) RVs_nil) ?_
  exact ⟨rfl, M688.pick [] (by kernel_rfl)⟩
theorem c_l_toSlotS (w : World) (x648 : List Slot) (p650 : Option Addr) (c651 : Nat) (h652 : rdS encSlot w x648 p650 c651) {r : (List Slot)} (hm : M.l_toSlotS x648 = some r) :
    Calls Tryz.prog 193 #[.slice p650 x648.length c651] w fun e w' => ∃ (p654 : Option Addr) (c655 : Nat) (sg656 : Seg), e = .returned (.slice p654 r.length c655) ∧ ownS encSlot r p654 c655 sg656 ∧ Mem [] w w' [sg656] := by
  unfold M.l_toSlotS at hm
  refine C_enter Tryz.func193 rfl (by kernel_rfl) ?_
  have M0 := Mem.refl [] w
  refine G_seq ?_
  refine G_region ?_
  refine W_run 1 [(0, .slice p650 x648.length c651)] w (by kernel_rfl) ?_
  refine W_nil ?_
  refine N_then ?_
  refine G_seq ?_
  refine G_region ?_
  refine W_run 2 [(0, .slice p650 x648.length c651), (6, .int .i64 (x648.length : Int))] w (by kernel_rfl) ?_
  obtain ⟨mk658, hmk658, hm⟩ := gx_bind hm
  refine W_make (E := encSlot) _ _ _ (x648.length : Int) 24 [.int .i64 0, .int .i64 0, .int .i64 0] ((⟨0, 0, 0⟩ : Slot) : Slot) M0 (by kernel_rfl) rfl (by kernel_rfl) (by kernel_rfl) (by kernel_rfl) (by kernel_rfl) (by kernel_rfl) hmk658 ?_
  intro p659 c660 sg661 w662 ho663 M664
  refine W_run 1 [(0, .slice p650 x648.length c651), (3, .slice p659 mk658.length c660)] w662 (by kernel_rfl) ?_
  refine W_nil ?_
  refine N_then ?_
  refine G_seq ?_
  refine G_seq ?_
  refine G_region ?_
  refine W_run 1 [(0, .slice p650 x648.length c651), (3, .slice p659 mk658.length c660), (4, .int .i64 0)] w662 (by kernel_rfl) ?_
  refine W_nil ?_
  refine N_then ?_
  obtain ⟨out718, hw719, hmo720⟩ := gx_bind hm
  refine G_meet (fun a w' => ∃ (sg724 : Seg), ownS encSlot out718 p659 c660 sg724 ∧ Mem [] w w' [sg724] ∧ Sat Tryz.f193.ntmps [(3, .slice p659 out718.length c660)] a) ?_ ?_
  · refine G_block ?_
    refine G_while (σ := Int × List Slot) (ρ := List Slot) (fun s711 a w' => ∃ (sg721 : Seg), ownS encSlot s711.2 p659 c660 sg721 ∧ Mem [] w w' [sg721] ∧ Sat Tryz.f193.ntmps [(0, .slice p650 x648.length c651), (3, .slice p659 s711.2.length c660), (4, .int .i64 s711.1)] a) hw719 (fun a ha => ⟨sg661, ho663, M664.pick [0] (by kernel_rfl), ha.sub (by kernel_rfl)⟩) ?_
    clear hm
    intro s711 x712 hm hout713 a714 w715 ⟨sg721, ho722, M716, hS717⟩
    refine G_use hS717 ?_
    refine G_seq ?_
    refine G_seq ?_
    refine G_region ?_
    refine W_run 4 [(0, .slice p650 x648.length c651), (3, .slice p659 s711.2.length c660), (4, .int .i64 s711.1), (11, .bool (decide (s711.1 < (x648.length : Int))))] w715 (by kernel_rfl) ?_
    refine W_nil ?_
    refine N_then ?_
    rcases gx_bif hm with ⟨hc726, hm⟩ | ⟨hc726, hm⟩
    · refine G_cond_t (b := (decide (s711.1 < (x648.length : Int)))) hc726 (by kernel_rfl) ?_
      refine G_skip ?_
      refine N_then ?_
      refine G_seq ?_
      refine G_block ?_
      refine G_region ?_
      refine W_run 4 [(0, .slice p650 x648.length c651), (3, .slice p659 s711.2.length c660), (4, .int .i64 s711.1), (14, .slice p659 s711.2.length c660), (15, .int .i64 s711.1), (16, .slice p650 x648.length c651), (17, .int .i64 s711.1)] w715 (by kernel_rfl) ?_
      obtain ⟨y727, hy727, hm⟩ := gx_bind hm
      refine W_val (elemP p650 (s711.1.toNat * 3)) w715 (by kernel_rfl) (E_index (E := encSlot) _ _ _ x648.length c651 .i64 s711.1 3 (y := y727) rfl (by kernel_rfl) (by kernel_rfl) (by kernel_rfl) (h652.mem0 M716) rfl hy727) ?_
      refine W_val (.agg #[.int .i64 y727.State, .int .i64 y727.Irq, .int .i64 y727.Priority]) w715 (by kernel_rfl) (E_loadE (E := encSlot) _ _ true 3 s711.1 0 (s711.1.toNat * 3) y727 (.agg #[.int .i64 y727.State, .int .i64 y727.Irq, .int .i64 y727.Priority]) rfl (by kernel_rfl) (by kernel_rfl) (by kernel_rfl) (h652.mem0 M716) hy727 rfl) ?_
      obtain ⟨r728, hr728, hm⟩ := gx_bind hm
      refine W_call 237 #[.agg #[.int .i64 y727.State, .int .i64 y727.Irq, .int .i64 y727.Priority]] (by kernel_rfl) (by kernel_rfl) ?_
      refine (c_l_toSlot w715 y727 hr728).mono ?_
      rintro e_ w729 ⟨rfl, K730⟩
      have M731 := M716.call0 K730
      refine ⟨_, rfl, ?_⟩
      obtain ⟨y732, hy732, hm⟩ := gx_bind hm
      refine W_val (elemP p659 (s711.1.toNat * 3)) w729 (by kernel_rfl) (E_index (E := encSlot) _ _ _ s711.2.length c660 .i64 s711.1 3 (y := y732) rfl (by kernel_rfl) (by kernel_rfl) (by kernel_rfl) (ho722.rd M731 0 (by kernel_rfl)) rfl hy732) ?_
      refine W_storeE (E := encSlot) _ _ _ true 3 s711.1.toNat 0 (s711.1.toNat * 3) y732 r728 (.agg #[.int .i64 r728.State, .int .i64 r728.Irq, .int .i64 r728.Priority]) 0 M731 ho722 (by kernel_rfl) (by kernel_rfl) rfl (by kernel_rfl) (by kernel_rfl) (by kernel_rfl) (by kernel_rfl) (by kernel_rfl) (by kernel_rfl) (by kernel_rfl) (gxIdx_spec hy732).2 rfl ?_
      intro w733 sg735 ho736 M734
      refine W_conv 3 (.slice p659 s711.2.length c660) (.slice p659 (s711.2.set s711.1.toNat r728).length c660) (by kernel_rfl) (by rw [@List.length_set _ s711.2 s711.1.toNat r728]) ?_
      refine W_conv 14 (.slice p659 s711.2.length c660) (.slice p659 (s711.2.set s711.1.toNat r728).length c660) (by kernel_rfl) (by rw [@List.length_set _ s711.2 s711.1.toNat r728]) ?_
      refine W_nil ?_
      refine N_block ?_
      refine N_then ?_
      refine G_region ?_
      refine W_run 3 [(0, .slice p650 x648.length c651), (3, .slice p659 (s711.2.set s711.1.toNat r728).length c660), (4, .int .i64 (w64 (s711.1 + 1)))] w733 (by kernel_rfl) ?_
      refine W_nil ?_
      obtain rfl := Option.some.inj hm
      exact N_loop fun a ha => ⟨_, rfl, sg735, ho736, M734.pick [0] (by kernel_rfl), ha.sub (by kernel_rfl)⟩
    · refine G_cond_f (b := (decide (s711.1 < (x648.length : Int)))) hc726 (by kernel_rfl) ?_
      refine G_exit ?_
      refine N_then_exit ?_
      refine N_then_exit ?_
      refine N_block_eq ?_
      obtain rfl := Option.some.inj hm
      obtain rfl := hout713 _ rfl
      exact N_meet fun a ha => ⟨sg721, ho722, M716.pick [0] (by kernel_rfl), ha.sub (by kernel_rfl)⟩
  · intro a737 w738 ⟨sg724, ho725, M739, hS740⟩
    refine N_use hS740 ?_
    have hm := hmo720
    refine N_then ?_
    refine G_seq ?_
    refine G_region ?_
    refine W_run 2 [(2, .slice p659 out718.length c660)] w738 (by kernel_rfl) ?_
    refine W_nil ?_
    refine N_then ?_
    refine G_ret ?_
    obtain rfl := Option.some.inj hm
    refine N_ret [.slice p659 out718.length c660] (RVs_cons (RV_tmp (by kernel_rfl)) RVs_nil) ?_
    exact ⟨p659, c660, sg724, rfl, ho725, M739.pick [0] (by kernel_rfl)⟩
theorem c_l_toWaiter (w : World) (x772 : Waiter) {r : Waiter} (hm : M.l_toWaiter x772 = some r) :
    Calls Tryz.prog 238 #[.agg #[.int .i64 x772.Irq, .int .i64 x772.Priority]] w fun e w' => e = .returned (.agg #[.int .i64 r.Irq, .int .i64 r.Priority]) ∧ Mem [] w w' [] := by
  unfold M.l_toWaiter at hm
  refine C_enter Tryz.func238 rfl (by kernel_rfl) ?_
  have M0 := Mem.refl [] w
  refine G_seq ?_
  refine G_region ?_
  refine W_new (fun b => .pointer (some ⟨b, 0, none⟩)) (.cells ⟨[.int .i64 x772.Irq, .int .i64 x772.Priority]⟩ 227 (0, 0)) M0 rfl (by kernel_rfl) (by kernel_rfl) ?_
  intro b774 w775 M776
  refine W_new (fun b => .pointer (some ⟨b, 0, none⟩)) (.cells ⟨[.int .i64 0, .int .i64 0]⟩ 142 (0, 0)) M776 rfl (by kernel_rfl) (by kernel_rfl) ?_
  intro b778 w779 M780
  refine W_nil ?_
  refine N_then ?_
  refine G_seq ?_
  refine G_region ?_
  refine W_new (fun b => .pointer (some ⟨b, 0, none⟩)) (.cells ⟨[.int .i64 0, .int .i64 0]⟩ 142 (0, 0)) M780 rfl (by kernel_rfl) (by kernel_rfl) ?_
  intro b782 w783 M784
  refine W_nil ?_
  refine N_then ?_
  refine G_seq ?_
  refine G_region ?_
  refine W_run 1 [(1, .pointer (some ⟨b774, 0, none⟩)), (2, .pointer (some ⟨b778, 0, none⟩)), (3, .pointer (some ⟨b782, 0, none⟩)), (4, .pointer (some ⟨b774, 0, none⟩))] w783 (by kernel_rfl) ?_
  refine W_val (.int .i64 x772.Irq) w783 (by kernel_rfl) (E_load (e := 227) (fr := (0, 0)) _ _ false 1 b774 0 [.int .i64 x772.Irq, .int .i64 x772.Priority] (.int .i64 x772.Irq) rfl (by kernel_rfl) (by kernel_rfl) (by kernel_rfl) (M784.blk 0 (b := b774) (o := .cells ⟨[.int .i64 x772.Irq, .int .i64 x772.Priority]⟩ 227 (0, 0)) (by kernel_rfl))) ?_
  refine W_run 1 [(1, .pointer (some ⟨b774, 0, none⟩)), (2, .pointer (some ⟨b778, 0, none⟩)), (3, .pointer (some ⟨b782, 0, none⟩)), (5, .int .i64 x772.Irq), (6, .pointer (some ⟨b782, 0, none⟩))] w783 (by kernel_rfl) ?_
  refine W_store _ _ _ false 1 b782 0 [.int .i64 0, .int .i64 0] 142 (.int .i64 x772.Irq) 2 [.int .i64 x772.Irq, .int .i64 0] M784 (by kernel_rfl) rfl (by kernel_rfl) (by kernel_rfl) (by kernel_rfl) (by kernel_rfl) (by kernel_rfl) (by kernel_rfl) (by kernel_rfl) (by kernel_rfl) ?_
  intro w785 M786
  refine W_nil ?_
  refine N_then ?_
  refine G_seq ?_
  refine G_region ?_
  refine W_run 1 [(2, .pointer (some ⟨b778, 0, none⟩)), (3, .pointer (some ⟨b782, 0, none⟩)), (7, .pointer (some ⟨b774, 1, none⟩))] w785 (by kernel_rfl) ?_
  refine W_val (.int .i64 x772.Priority) w785 (by kernel_rfl) (E_load (e := 227) (fr := (0, 0)) _ _ false 1 b774 1 [.int .i64 x772.Irq, .int .i64 x772.Priority] (.int .i64 x772.Priority) rfl (by kernel_rfl) (by kernel_rfl) (by kernel_rfl) (M786.blk 0 (b := b774) (o := .cells ⟨[.int .i64 x772.Irq, .int .i64 x772.Priority]⟩ 227 (0, 0)) (by kernel_rfl))) ?_
  refine W_run 1 [(2, .pointer (some ⟨b778, 0, none⟩)), (3, .pointer (some ⟨b782, 0, none⟩)), (8, .int .i64 x772.Priority), (9, .pointer (some ⟨b782, 1, none⟩))] w785 (by kernel_rfl) ?_
  refine W_store _ _ _ false 1 b782 1 [.int .i64 x772.Irq, .int .i64 0] 142 (.int .i64 x772.Priority) 2 [.int .i64 x772.Irq, .int .i64 x772.Priority] M786 (by kernel_rfl) rfl (by kernel_rfl) (by kernel_rfl) (by kernel_rfl) (by kernel_rfl) (by kernel_rfl) (by kernel_rfl) (by kernel_rfl) (by kernel_rfl) ?_
  intro w787 M788
  refine W_nil ?_
  refine N_then ?_
  refine G_seq ?_
  refine G_region ?_
  refine W_val (.agg #[.int .i64 x772.Irq, .int .i64 x772.Priority]) w787 (by kernel_rfl) (E_load (e := 142) (fr := (0, 0)) _ _ true 2 b782 0 [.int .i64 x772.Irq, .int .i64 x772.Priority] (.agg #[.int .i64 x772.Irq, .int .i64 x772.Priority]) rfl (by kernel_rfl) (by kernel_rfl) (by kernel_rfl) (M788.blk 2 (b := b782) (o := .cells ⟨[.int .i64 x772.Irq, .int .i64 x772.Priority]⟩ 142 (0, 0)) (by kernel_rfl))) ?_
  refine W_store _ _ _ true 2 b778 0 [.int .i64 0, .int .i64 0] 142 (.agg #[.int .i64 x772.Irq, .int .i64 x772.Priority]) 1 [.int .i64 x772.Irq, .int .i64 x772.Priority] M788 (by kernel_rfl) rfl (by kernel_rfl) (by kernel_rfl) (by kernel_rfl) (by kernel_rfl) (by kernel_rfl) (by kernel_rfl) (by kernel_rfl) (by kernel_rfl) ?_
  intro w789 M790
  refine W_nil ?_
  refine N_then ?_
  refine G_ret ?_
  obtain rfl := Option.some.inj hm
  refine N_ret [.agg #[.int .i64 x772.Irq, .int .i64 x772.Priority]] (RVs_cons (RV_cell (g := true) (k := 2) (b := b778) (off := 0) (cs := [.int .i64 x772.Irq, .int .i64 x772.Priority]) (e := 142) (fr := (0, 0)) (v := .agg #[.int .i64 x772.Irq, .int .i64 x772.Priority]) (M790.blk 1 (b := b778) (o := .cells ⟨[.int .i64 x772.Irq, .int .i64 x772.Priority]⟩ 142 (0, 0)) (by kernel_rfl)) (by kernel_rfl) (by kernel_rfl) (by kernel_rfl)) RVs_nil) ?_
  exact ⟨rfl, M790.pick [] (by kernel_rfl)⟩
theorem c_l_toWaiterS (w : World) (x752 : List Waiter) (p754 : Option Addr) (c755 : Nat) (h756 : rdS encWaiter w x752 p754 c755) {r : (List Waiter)} (hm : M.l_toWaiterS x752 = some r) :
    Calls Tryz.prog 194 #[.slice p754 x752.length c755] w fun e w' => ∃ (p758 : Option Addr) (c759 : Nat) (sg760 : Seg), e = .returned (.slice p758 r.length c759) ∧ ownS encWaiter r p758 c759 sg760 ∧ Mem [] w w' [sg760] := by
  unfold M.l_toWaiterS at hm
  refine C_enter Tryz.func194 rfl (by kernel_rfl) ?_
  have M0 := Mem.refl [] w
  refine G_seq ?_
  refine G_region ?_
  refine W_run 1 [(0, .slice p754 x752.length c755)] w (by kernel_rfl) ?_
  refine W_nil ?_
  refine N_then ?_
  refine G_seq ?_
  refine G_region ?_
  refine W_run 2 [(0, .slice p754 x752.length c755), (6, .int .i64 (x752.length : Int))] w (by kernel_rfl) ?_
  obtain ⟨mk762, hmk762, hm⟩ := gx_bind hm
  refine W_make (E := encWaiter) _ _ _ (x752.length : Int) 16 [.int .i64 0, .int .i64 0] ((⟨0, 0⟩ : Waiter) : Waiter) M0 (by kernel_rfl) rfl (by kernel_rfl) (by kernel_rfl) (by kernel_rfl) (by kernel_rfl) (by kernel_rfl) hmk762 ?_
  intro p763 c764 sg765 w766 ho767 M768
  refine W_run 1 [(0, .slice p754 x752.length c755), (3, .slice p763 mk762.length c764)] w766 (by kernel_rfl) ?_
  refine W_nil ?_
  refine N_then ?_
  refine G_seq ?_
  refine G_seq ?_
  refine G_region ?_
  refine W_run 1 [(0, .slice p754 x752.length c755), (3, .slice p763 mk762.length c764), (4, .int .i64 0)] w766 (by kernel_rfl) ?_
  refine W_nil ?_
  refine N_then ?_
  obtain ⟨out820, hw821, hmo822⟩ := gx_bind hm
  refine G_meet (fun a w' => ∃ (sg826 : Seg), ownS encWaiter out820 p763 c764 sg826 ∧ Mem [] w w' [sg826] ∧ Sat Tryz.f194.ntmps [(3, .slice p763 out820.length c764)] a) ?_ ?_
  · refine G_block ?_
    refine G_while (σ := Int × List Waiter) (ρ := List Waiter) (fun s813 a w' => ∃ (sg823 : Seg), ownS encWaiter s813.2 p763 c764 sg823 ∧ Mem [] w w' [sg823] ∧ Sat Tryz.f194.ntmps [(0, .slice p754 x752.length c755), (3, .slice p763 s813.2.length c764), (4, .int .i64 s813.1)] a) hw821 (fun a ha => ⟨sg765, ho767, M768.pick [0] (by kernel_rfl), ha.sub (by kernel_rfl)⟩) ?_
    clear hm
    intro s813 x814 hm hout815 a816 w817 ⟨sg823, ho824, M818, hS819⟩
    refine G_use hS819 ?_
    refine G_seq ?_
    refine G_seq ?_
    refine G_region ?_
    refine W_run 4 [(0, .slice p754 x752.length c755), (3, .slice p763 s813.2.length c764), (4, .int .i64 s813.1), (11, .bool (decide (s813.1 < (x752.length : Int))))] w817 (by kernel_rfl) ?_
    refine W_nil ?_
    refine N_then ?_
    rcases gx_bif hm with ⟨hc828, hm⟩ | ⟨hc828, hm⟩
    · refine G_cond_t (b := (decide (s813.1 < (x752.length : Int)))) hc828 (by kernel_rfl) ?_
      refine G_skip ?_
      refine N_then ?_
      refine G_seq ?_
      refine G_block ?_
      refine G_region ?_
      refine W_run 4 [(0, .slice p754 x752.length c755), (3, .slice p763 s813.2.length c764), (4, .int .i64 s813.1), (14, .slice p763 s813.2.length c764), (15, .int .i64 s813.1), (16, .slice p754 x752.length c755), (17, .int .i64 s813.1)] w817 (by kernel_rfl) ?_
      obtain ⟨y829, hy829, hm⟩ := gx_bind hm
      refine W_val (elemP p754 (s813.1.toNat * 2)) w817 (by kernel_rfl) (E_index (E := encWaiter) _ _ _ x752.length c755 .i64 s813.1 2 (y := y829) rfl (by kernel_rfl) (by kernel_rfl) (by kernel_rfl) (h756.mem0 M818) rfl hy829) ?_
      refine W_val (.agg #[.int .i64 y829.Irq, .int .i64 y829.Priority]) w817 (by kernel_rfl) (E_loadE (E := encWaiter) _ _ true 2 s813.1 0 (s813.1.toNat * 2) y829 (.agg #[.int .i64 y829.Irq, .int .i64 y829.Priority]) rfl (by kernel_rfl) (by kernel_rfl) (by kernel_rfl) (h756.mem0 M818) hy829 rfl) ?_
      obtain ⟨r830, hr830, hm⟩ := gx_bind hm
      refine W_call 238 #[.agg #[.int .i64 y829.Irq, .int .i64 y829.Priority]] (by kernel_rfl) (by kernel_rfl) ?_
      refine (c_l_toWaiter w817 y829 hr830).mono ?_
      rintro e_ w831 ⟨rfl, K832⟩
      have M833 := M818.call0 K832
      refine ⟨_, rfl, ?_⟩
      obtain ⟨y834, hy834, hm⟩ := gx_bind hm
      refine W_val (elemP p763 (s813.1.toNat * 2)) w831 (by kernel_rfl) (E_index (E := encWaiter) _ _ _ s813.2.length c764 .i64 s813.1 2 (y := y834) rfl (by kernel_rfl) (by kernel_rfl) (by kernel_rfl) (ho824.rd M833 0 (by kernel_rfl)) rfl hy834) ?_
      refine W_storeE (E := encWaiter) _ _ _ true 2 s813.1.toNat 0 (s813.1.toNat * 2) y834 r830 (.agg #[.int .i64 r830.Irq, .int .i64 r830.Priority]) 0 M833 ho824 (by kernel_rfl) (by kernel_rfl) rfl (by kernel_rfl) (by kernel_rfl) (by kernel_rfl) (by kernel_rfl) (by kernel_rfl) (by kernel_rfl) (by kernel_rfl) (gxIdx_spec hy834).2 rfl ?_
      intro w835 sg837 ho838 M836
      refine W_conv 3 (.slice p763 s813.2.length c764) (.slice p763 (s813.2.set s813.1.toNat r830).length c764) (by kernel_rfl) (by rw [@List.length_set _ s813.2 s813.1.toNat r830]) ?_
      refine W_conv 14 (.slice p763 s813.2.length c764) (.slice p763 (s813.2.set s813.1.toNat r830).length c764) (by kernel_rfl) (by rw [@List.length_set _ s813.2 s813.1.toNat r830]) ?_
      refine W_nil ?_
      refine N_block ?_
      refine N_then ?_
      refine G_region ?_
      refine W_run 3 [(0, .slice p754 x752.length c755), (3, .slice p763 (s813.2.set s813.1.toNat r830).length c764), (4, .int .i64 (w64 (s813.1 + 1)))] w835 (by kernel_rfl) ?_
      refine W_nil ?_
      obtain rfl := Option.some.inj hm
      exact N_loop fun a ha => ⟨_, rfl, sg837, ho838, M836.pick [0] (by kernel_rfl), ha.sub (by kernel_rfl)⟩
    · refine G_cond_f (b := (decide (s813.1 < (x752.length : Int)))) hc828 (by kernel_rfl) ?_
      refine G_exit ?_
      refine N_then_exit ?_
      refine N_then_exit ?_
      refine N_block_eq ?_
      obtain rfl := Option.some.inj hm
      obtain rfl := hout815 _ rfl
      exact N_meet fun a ha => ⟨sg823, ho824, M818.pick [0] (by kernel_rfl), ha.sub (by kernel_rfl)⟩
  · intro a839 w840 ⟨sg826, ho827, M841, hS842⟩
    refine N_use hS842 ?_
    have hm := hmo822
    refine N_then ?_
    refine G_seq ?_
    refine G_region ?_
    refine W_run 2 [(2, .slice p763 out820.length c764)] w840 (by kernel_rfl) ?_
    refine W_nil ?_
    refine N_then ?_
    refine G_ret ?_
    obtain rfl := Option.some.inj hm
    refine N_ret [.slice p763 out820.length c764] (RVs_cons (RV_tmp (by kernel_rfl)) RVs_nil) ?_
    exact ⟨p763, c764, sg826, rfl, ho827, M841.pick [0] (by kernel_rfl)⟩
theorem c_l_toQueue (w : World) (x615 : Queue) (p617 : Option Addr) (c618 : Nat) (h619 : rdS encSlot w x615.Slots p617 c618) (p621 : Option Addr) (c622 : Nat) (h623 : rdS encWaiter w x615.Waiting p621 c622) {r : Queue} (hm : M.l_toQueue x615 = some r) :
    Calls Tryz.prog 158 #[.agg #[.slice p617 x615.Slots.length c618, .slice p621 x615.Waiting.length c622]] w fun e w' => ∃ (p625 : Option Addr) (c626 : Nat) (sg627 : Seg), ∃ (p629 : Option Addr) (c630 : Nat) (sg631 : Seg), e = .returned (.agg #[.slice p625 r.Slots.length c626, .slice p629 r.Waiting.length c630]) ∧ ownS encSlot r.Slots p625 c626 sg627 ∧ ownS encWaiter r.Waiting p629 c630 sg631 ∧ Mem [] w w' [sg627, sg631] := by
  unfold M.l_toQueue at hm
  refine C_enter Tryz.func158 rfl (by kernel_rfl) ?_
  have M0 := Mem.refl [] w
  refine G_seq ?_
  refine G_region ?_
  refine W_new (fun b => .pointer (some ⟨b, 0, none⟩)) (.cells ⟨[.slice p617 x615.Slots.length c618, .slice p621 x615.Waiting.length c622]⟩ 124 (0, 0)) M0 rfl (by kernel_rfl) (by kernel_rfl) ?_
  intro b633 w634 M635
  refine W_new (fun b => .pointer (some ⟨b, 0, none⟩)) (.cells ⟨[.slice none 0 0, .slice none 0 0]⟩ 85 (0, 0)) M635 rfl (by kernel_rfl) (by kernel_rfl) ?_
  intro b639 w640 M641
  refine W_nil ?_
  refine N_then ?_
  refine G_seq ?_
  refine G_region ?_
  refine W_new (fun b => .pointer (some ⟨b, 0, none⟩)) (.cells ⟨[.slice none 0 0, .slice none 0 0]⟩ 85 (0, 0)) M641 rfl (by kernel_rfl) (by kernel_rfl) ?_
  intro b645 w646 M647
  refine W_nil ?_
  refine N_then ?_
  refine G_seq ?_
  refine G_region ?_
  refine W_run 1 [(1, .pointer (some ⟨b633, 0, none⟩)), (2, .pointer (some ⟨b639, 0, none⟩)), (3, .pointer (some ⟨b645, 0, none⟩)), (4, .pointer (some ⟨b633, 0, none⟩))] w646 (by kernel_rfl) ?_
  refine W_val (.slice p617 x615.Slots.length c618) w646 (by kernel_rfl) (E_load (e := 124) (fr := (0, 0)) _ _ false 1 b633 0 [.slice p617 x615.Slots.length c618, .slice p621 x615.Waiting.length c622] (.slice p617 x615.Slots.length c618) rfl (by kernel_rfl) (by kernel_rfl) (by kernel_rfl) (M647.blk 0 (b := b633) (o := .cells ⟨[.slice p617 x615.Slots.length c618, .slice p621 x615.Waiting.length c622]⟩ 124 (0, 0)) (by kernel_rfl))) ?_
  obtain ⟨r741, hr741, hm⟩ := gx_bind hm
  refine W_call 193 #[.slice p617 x615.Slots.length c618] (by kernel_rfl) (by kernel_rfl) ?_
  refine (c_l_toSlotS w646 x615.Slots p617 c618 (h619.mem0 M647) hr741).mono ?_
  rintro e_ w747 ⟨p743, c744, sg745, rfl, ho746, K748⟩
  have M749 := M647.call K748
  refine ⟨_, rfl, ?_⟩
  refine W_run 1 [(1, .pointer (some ⟨b633, 0, none⟩)), (2, .pointer (some ⟨b639, 0, none⟩)), (3, .pointer (some ⟨b645, 0, none⟩)), (6, .slice p743 r741.length c744), (7, .pointer (some ⟨b645, 0, none⟩))] w747 (by kernel_rfl) ?_
  refine W_store _ _ _ false 1 b645 0 [.slice none 0 0, .slice none 0 0] 85 (.slice p743 r741.length c744) 2 [.slice p743 r741.length c744, .slice none 0 0] M749 (by kernel_rfl) rfl (by kernel_rfl) (by kernel_rfl) (by kernel_rfl) (by kernel_rfl) (by kernel_rfl) (by kernel_rfl) (by kernel_rfl) (by kernel_rfl) ?_
  intro w750 M751
  refine W_nil ?_
  refine N_then ?_
  refine G_seq ?_
  refine G_region ?_
  refine W_run 1 [(2, .pointer (some ⟨b639, 0, none⟩)), (3, .pointer (some ⟨b645, 0, none⟩)), (8, .pointer (some ⟨b633, 1, none⟩))] w750 (by kernel_rfl) ?_
  refine W_val (.slice p621 x615.Waiting.length c622) w750 (by kernel_rfl) (E_load (e := 124) (fr := (0, 0)) _ _ false 1 b633 1 [.slice p617 x615.Slots.length c618, .slice p621 x615.Waiting.length c622] (.slice p621 x615.Waiting.length c622) rfl (by kernel_rfl) (by kernel_rfl) (by kernel_rfl) (M751.blk 0 (b := b633) (o := .cells ⟨[.slice p617 x615.Slots.length c618, .slice p621 x615.Waiting.length c622]⟩ 124 (0, 0)) (by kernel_rfl))) ?_
  obtain ⟨r843, hr843, hm⟩ := gx_bind hm
  refine W_call 194 #[.slice p621 x615.Waiting.length c622] (by kernel_rfl) (by kernel_rfl) ?_
  refine (c_l_toWaiterS w750 x615.Waiting p621 c622 (h623.mem0 M751) hr843).mono ?_
  rintro e_ w849 ⟨p845, c846, sg847, rfl, ho848, K850⟩
  have M851 := M751.call K850
  refine ⟨_, rfl, ?_⟩
  refine W_run 1 [(2, .pointer (some ⟨b639, 0, none⟩)), (3, .pointer (some ⟨b645, 0, none⟩)), (10, .slice p845 r843.length c846), (11, .pointer (some ⟨b645, 1, none⟩))] w849 (by kernel_rfl) ?_
  refine W_store _ _ _ false 1 b645 1 [.slice p743 r741.length c744, .slice none 0 0] 85 (.slice p845 r843.length c846) 2 [.slice p743 r741.length c744, .slice p845 r843.length c846] M851 (by kernel_rfl) rfl (by kernel_rfl) (by kernel_rfl) (by kernel_rfl) (by kernel_rfl) (by kernel_rfl) (by kernel_rfl) (by kernel_rfl) (by kernel_rfl) ?_
  intro w852 M853
  refine W_nil ?_
  refine N_then ?_
  refine G_seq ?_
  refine G_region ?_
  refine W_val (.agg #[.slice p743 r741.length c744, .slice p845 r843.length c846]) w852 (by kernel_rfl) (E_load (e := 85) (fr := (0, 0)) _ _ true 2 b645 0 [.slice p743 r741.length c744, .slice p845 r843.length c846] (.agg #[.slice p743 r741.length c744, .slice p845 r843.length c846]) rfl (by kernel_rfl) (by kernel_rfl) (by kernel_rfl) (M853.blk 2 (b := b645) (o := .cells ⟨[.slice p743 r741.length c744, .slice p845 r843.length c846]⟩ 85 (0, 0)) (by kernel_rfl))) ?_
  refine W_store _ _ _ true 2 b639 0 [.slice none 0 0, .slice none 0 0] 85 (.agg #[.slice p743 r741.length c744, .slice p845 r843.length c846]) 1 [.slice p743 r741.length c744, .slice p845 r843.length c846] M853 (by kernel_rfl) rfl (by kernel_rfl) (by kernel_rfl) (by kernel_rfl) (by kernel_rfl) (by kernel_rfl) (by kernel_rfl) (by kernel_rfl) (by kernel_rfl) ?_
  intro w854 M855
  refine W_nil ?_
  refine N_then ?_
  refine G_ret ?_
  obtain rfl := Option.some.inj hm
  refine N_ret [.agg #[.slice p743 r741.length c744, .slice p845 r843.length c846]] (RVs_cons (RV_cell (g := true) (k := 2) (b := b639) (off := 0) (cs := [.slice p743 r741.length c744, .slice p845 r843.length c846]) (e := 85) (fr := (0, 0)) (v := .agg #[.slice p743 r741.length c744, .slice p845 r843.length c846]) (M855.blk 1 (b := b639) (o := .cells ⟨[.slice p743 r741.length c744, .slice p845 r843.length c846]⟩ 85 (0, 0)) (by kernel_rfl)) (by kernel_rfl) (by kernel_rfl) (by kernel_rfl)) RVs_nil) ?_
  exact ⟨p743, c744, sg745, p845, c846, sg847, rfl, ho746, ho848, M855.pick [3, 4] (by kernel_rfl)⟩
theorem c_l_toInterface (w : World) (x499 : Interface) (p501 : Option Addr) (c502 : Nat) (h503 : rdS Gx.encI w x499.Stack p501 c502) (p505 : Option Addr) (c506 : Nat) (h507 : rdS encSlot w x499.Queue.Slots p505 c506) (p509 : Option Addr) (c510 : Nat) (h511 : rdS encWaiter w x499.Queue.Waiting p509 c510) {r : Interface} (hm : M.l_toInterface x499 = some r) :
    Calls Tryz.prog 107 #[.agg #[.int .i64 x499.Mask, .slice p501 x499.Stack.length c502, .slice p505 x499.Queue.Slots.length c506, .slice p509 x499.Queue.Waiting.length c510]] w fun e w' => ∃ (p513 : Option Addr) (c514 : Nat) (sg515 : Seg), ∃ (p517 : Option Addr) (c518 : Nat) (sg519 : Seg), ∃ (p521 : Option Addr) (c522 : Nat) (sg523 : Seg), e = .returned (.agg #[.int .i64 r.Mask, .slice p513 r.Stack.length c514, .slice p517 r.Queue.Slots.length c518, .slice p521 r.Queue.Waiting.length c522]) ∧ ownS Gx.encI r.Stack p513 c514 sg515 ∧ ownS encSlot r.Queue.Slots p517 c518 sg519 ∧ ownS encWaiter r.Queue.Waiting p521 c522 sg523 ∧ Mem [] w w' [sg515, sg519, sg523] := by
  unfold M.l_toInterface at hm
  refine C_enter Tryz.func107 rfl (by kernel_rfl) ?_
  have M0 := Mem.refl [] w
  refine G_seq ?_
  refine G_region ?_
  refine W_new (fun b => .pointer (some ⟨b, 0, none⟩)) (.cells ⟨[.int .i64 x499.Mask, .slice p501 x499.Stack.length c502, .slice p505 x499.Queue.Slots.length c506, .slice p509 x499.Queue.Waiting.length c510]⟩ 126 (0, 0)) M0 rfl (by kernel_rfl) (by kernel_rfl) ?_
  intro b525 w526 M527
  refine W_new (fun b => .pointer (some ⟨b, 0, none⟩)) (.cells ⟨[.int .i64 0, .slice none 0 0, .slice none 0 0, .slice none 0 0]⟩ 87 (0, 0)) M527 rfl (by kernel_rfl) (by kernel_rfl) ?_
  intro b532 w533 M534
  refine W_nil ?_
  refine N_then ?_
  refine G_seq ?_
  refine G_region ?_
  refine W_new (fun b => .pointer (some ⟨b, 0, none⟩)) (.cells ⟨[.int .i64 0, .slice none 0 0, .slice none 0 0, .slice none 0 0]⟩ 87 (0, 0)) M534 rfl (by kernel_rfl) (by kernel_rfl) ?_
  intro b539 w540 M541
  refine W_nil ?_
  refine N_then ?_
  refine G_seq ?_
  refine G_region ?_
  refine W_run 1 [(1, .pointer (some ⟨b525, 0, none⟩)), (2, .pointer (some ⟨b532, 0, none⟩)), (3, .pointer (some ⟨b539, 0, none⟩)), (4, .pointer (some ⟨b525, 0, none⟩))] w540 (by kernel_rfl) ?_
  refine W_val (.int .i64 x499.Mask) w540 (by kernel_rfl) (E_load (e := 126) (fr := (0, 0)) _ _ false 1 b525 0 [.int .i64 x499.Mask, .slice p501 x499.Stack.length c502, .slice p505 x499.Queue.Slots.length c506, .slice p509 x499.Queue.Waiting.length c510] (.int .i64 x499.Mask) rfl (by kernel_rfl) (by kernel_rfl) (by kernel_rfl) (M541.blk 0 (b := b525) (o := .cells ⟨[.int .i64 x499.Mask, .slice p501 x499.Stack.length c502, .slice p505 x499.Queue.Slots.length c506, .slice p509 x499.Queue.Waiting.length c510]⟩ 126 (0, 0)) (by kernel_rfl))) ?_
  refine W_run 1 [(1, .pointer (some ⟨b525, 0, none⟩)), (2, .pointer (some ⟨b532, 0, none⟩)), (3, .pointer (some ⟨b539, 0, none⟩)), (5, .int .i64 x499.Mask), (6, .pointer (some ⟨b539, 0, none⟩))] w540 (by kernel_rfl) ?_
  refine W_store _ _ _ false 1 b539 0 [.int .i64 0, .slice none 0 0, .slice none 0 0, .slice none 0 0] 87 (.int .i64 x499.Mask) 2 [.int .i64 x499.Mask, .slice none 0 0, .slice none 0 0, .slice none 0 0] M541 (by kernel_rfl) rfl (by kernel_rfl) (by kernel_rfl) (by kernel_rfl) (by kernel_rfl) (by kernel_rfl) (by kernel_rfl) (by kernel_rfl) (by kernel_rfl) ?_
  intro w542 M543
  refine W_nil ?_
  refine N_then ?_
  refine G_seq ?_
  refine G_region ?_
  refine W_run 1 [(1, .pointer (some ⟨b525, 0, none⟩)), (2, .pointer (some ⟨b532, 0, none⟩)), (3, .pointer (some ⟨b539, 0, none⟩)), (7, .pointer (some ⟨b525, 1, none⟩))] w542 (by kernel_rfl) ?_
  refine W_val (.slice p501 x499.Stack.length c502) w542 (by kernel_rfl) (E_load (e := 126) (fr := (0, 0)) _ _ false 1 b525 1 [.int .i64 x499.Mask, .slice p501 x499.Stack.length c502, .slice p505 x499.Queue.Slots.length c506, .slice p509 x499.Queue.Waiting.length c510] (.slice p501 x499.Stack.length c502) rfl (by kernel_rfl) (by kernel_rfl) (by kernel_rfl) (M543.blk 0 (b := b525) (o := .cells ⟨[.int .i64 x499.Mask, .slice p501 x499.Stack.length c502, .slice p505 x499.Queue.Slots.length c506, .slice p509 x499.Queue.Waiting.length c510]⟩ 126 (0, 0)) (by kernel_rfl))) ?_
  obtain ⟨r604, hr604, hm⟩ := gx_bind hm
  refine W_call 157 #[.slice p501 x499.Stack.length c502] (by kernel_rfl) (by kernel_rfl) ?_
  refine (c_l_toIntS w542 x499.Stack p501 c502 (h503.mem0 M543) hr604).mono ?_
  rintro e_ w610 ⟨p606, c607, sg608, rfl, ho609, K611⟩
  have M612 := M543.call K611
  refine ⟨_, rfl, ?_⟩
  refine W_run 1 [(1, .pointer (some ⟨b525, 0, none⟩)), (2, .pointer (some ⟨b532, 0, none⟩)), (3, .pointer (some ⟨b539, 0, none⟩)), (9, .slice p606 r604.length c607), (10, .pointer (some ⟨b539, 1, none⟩))] w610 (by kernel_rfl) ?_
  refine W_store _ _ _ false 1 b539 1 [.int .i64 x499.Mask, .slice none 0 0, .slice none 0 0, .slice none 0 0] 87 (.slice p606 r604.length c607) 2 [.int .i64 x499.Mask, .slice p606 r604.length c607, .slice none 0 0, .slice none 0 0] M612 (by kernel_rfl) rfl (by kernel_rfl) (by kernel_rfl) (by kernel_rfl) (by kernel_rfl) (by kernel_rfl) (by kernel_rfl) (by kernel_rfl) (by kernel_rfl) ?_
  intro w613 M614
  refine W_nil ?_
  refine N_then ?_
  refine G_seq ?_
  refine G_region ?_
  refine W_run 1 [(2, .pointer (some ⟨b532, 0, none⟩)), (3, .pointer (some ⟨b539, 0, none⟩)), (11, .pointer (some ⟨b525, 2, none⟩))] w613 (by kernel_rfl) ?_
  refine W_val (.agg #[.slice p505 x499.Queue.Slots.length c506, .slice p509 x499.Queue.Waiting.length c510]) w613 (by kernel_rfl) (E_load (e := 126) (fr := (0, 0)) _ _ true 2 b525 2 [.int .i64 x499.Mask, .slice p501 x499.Stack.length c502, .slice p505 x499.Queue.Slots.length c506, .slice p509 x499.Queue.Waiting.length c510] (.agg #[.slice p505 x499.Queue.Slots.length c506, .slice p509 x499.Queue.Waiting.length c510]) rfl (by kernel_rfl) (by kernel_rfl) (by kernel_rfl) (M614.blk 0 (b := b525) (o := .cells ⟨[.int .i64 x499.Mask, .slice p501 x499.Stack.length c502, .slice p505 x499.Queue.Slots.length c506, .slice p509 x499.Queue.Waiting.length c510]⟩ 126 (0, 0)) (by kernel_rfl))) ?_
  obtain ⟨r856, hr856, hm⟩ := gx_bind hm
  refine W_call 158 #[.agg #[.slice p505 x499.Queue.Slots.length c506, .slice p509 x499.Queue.Waiting.length c510]] (by kernel_rfl) (by kernel_rfl) ?_
  refine (c_l_toQueue w613 (⟨x499.Queue.Slots, x499.Queue.Waiting⟩ : Queue) p505 c506 (h507.mem0 M614) p509 c510 (h511.mem0 M614) hr856).mono ?_
  rintro e_ w867 ⟨p858, c859, sg860, p863, c864, sg865, rfl, ho861, ho866, K868⟩
  have M869 := M614.call K868
  refine ⟨_, rfl, ?_⟩
  refine W_run 1 [(2, .pointer (some ⟨b532, 0, none⟩)), (3, .pointer (some ⟨b539, 0, none⟩)), (13, .agg #[.slice p858 r856.Slots.length c859, .slice p863 r856.Waiting.length c864]), (14, .pointer (some ⟨b539, 2, none⟩))] w867 (by kernel_rfl) ?_
  refine W_store _ _ _ true 2 b539 2 [.int .i64 x499.Mask, .slice p606 r604.length c607, .slice none 0 0, .slice none 0 0] 87 (.agg #[.slice p858 r856.Slots.length c859, .slice p863 r856.Waiting.length c864]) 2 [.int .i64 x499.Mask, .slice p606 r604.length c607, .slice p858 r856.Slots.length c859, .slice p863 r856.Waiting.length c864] M869 (by kernel_rfl) rfl (by kernel_rfl) (by kernel_rfl) (by kernel_rfl) (by kernel_rfl) (by kernel_rfl) (by kernel_rfl) (by kernel_rfl) (by kernel_rfl) ?_
  intro w870 M871
  refine W_nil ?_
  refine N_then ?_
  refine G_seq ?_
  refine G_region ?_
  refine W_val (.agg #[.int .i64 x499.Mask, .slice p606 r604.length c607, .slice p858 r856.Slots.length c859, .slice p863 r856.Waiting.length c864]) w870 (by kernel_rfl) (E_load (e := 87) (fr := (0, 0)) _ _ true 4 b539 0 [.int .i64 x499.Mask, .slice p606 r604.length c607, .slice p858 r856.Slots.length c859, .slice p863 r856.Waiting.length c864] (.agg #[.int .i64 x499.Mask, .slice p606 r604.length c607, .slice p858 r856.Slots.length c859, .slice p863 r856.Waiting.length c864]) rfl (by kernel_rfl) (by kernel_rfl) (by kernel_rfl) (M871.blk 2 (b := b539) (o := .cells ⟨[.int .i64 x499.Mask, .slice p606 r604.length c607, .slice p858 r856.Slots.length c859, .slice p863 r856.Waiting.length c864]⟩ 87 (0, 0)) (by kernel_rfl))) ?_
  refine W_store _ _ _ true 4 b532 0 [.int .i64 0, .slice none 0 0, .slice none 0 0, .slice none 0 0] 87 (.agg #[.int .i64 x499.Mask, .slice p606 r604.length c607, .slice p858 r856.Slots.length c859, .slice p863 r856.Waiting.length c864]) 1 [.int .i64 x499.Mask, .slice p606 r604.length c607, .slice p858 r856.Slots.length c859, .slice p863 r856.Waiting.length c864] M871 (by kernel_rfl) rfl (by kernel_rfl) (by kernel_rfl) (by kernel_rfl) (by kernel_rfl) (by kernel_rfl) (by kernel_rfl) (by kernel_rfl) (by kernel_rfl) ?_
  intro w872 M873
  refine W_nil ?_
  refine N_then ?_
  refine G_ret ?_
  obtain rfl := Option.some.inj hm
  refine N_ret [.agg #[.int .i64 x499.Mask, .slice p606 r604.length c607, .slice p858 r856.Slots.length c859, .slice p863 r856.Waiting.length c864]] (RVs_cons (RV_cell (g := true) (k := 4) (b := b532) (off := 0) (cs := [.int .i64 x499.Mask, .slice p606 r604.length c607, .slice p858 r856.Slots.length c859, .slice p863 r856.Waiting.length c864]) (e := 87) (fr := (0, 0)) (v := .agg #[.int .i64 x499.Mask, .slice p606 r604.length c607, .slice p858 r856.Slots.length c859, .slice p863 r856.Waiting.length c864]) (M873.blk 1 (b := b532) (o := .cells ⟨[.int .i64 x499.Mask, .slice p606 r604.length c607, .slice p858 r856.Slots.length c859, .slice p863 r856.Waiting.length c864]⟩ 87 (0, 0)) (by kernel_rfl)) (by kernel_rfl) (by kernel_rfl) (by kernel_rfl)) RVs_nil) ?_
  exact ⟨p606, c607, sg608, p858, c859, sg860, p863, c864, sg865, rfl, ho609, ho861, ho866, M873.pick [3, 4, 5] (by kernel_rfl)⟩
theorem c_l_toInterfaceS (w : World) (x464 : List Interface) (p466 : Option Addr) (c467 : Nat) (h468 : rdD deepInterface w x464 p466 c467) {r : (List Interface)} (hm : M.l_toInterfaceS x464 = some r) :
    Calls Tryz.prog 57 #[.slice p466 x464.length c467] w fun e w' => ∃ (p470 : Option Addr) (c471 : Nat) (sg472 : Seg) (sg473 : Seg), e = .returned (.slice p470 r.length c471) ∧ ownD deepInterface r p470 c471 sg472 sg473 ∧ Mem [] w w' [sg472, sg473] := by
  unfold M.l_toInterfaceS at hm
  refine C_enter Tryz.func57 rfl (by kernel_rfl) ?_
  have M0 := Mem.refl [] w
  refine G_seq ?_
  refine G_region ?_
  refine W_run 1 [(0, .slice p466 x464.length c467)] w (by kernel_rfl) ?_
  refine W_nil ?_
  refine N_then ?_
  refine G_seq ?_
  refine G_region ?_
  refine W_run 2 [(0, .slice p466 x464.length c467), (6, .int .i64 (x464.length : Int))] w (by kernel_rfl) ?_
  obtain ⟨mk478, hmk478, hm⟩ := gx_bind hm
  refine W_makeD (D := deepInterface) _ _ _ (x464.length : Int) 80 [.int .i64 0, .slice none 0 0, .slice none 0 0, .slice none 0 0] ((⟨0, [], (⟨[], []⟩ : Queue)⟩ : Interface) : Interface) (plOf []) M0 (by kernel_rfl) rfl (by kernel_rfl) (by kernel_rfl) (by kernel_rfl) (by kernel_rfl) (by kernel_rfl) (by intro i hi; simp [deepInterface] at hi; first | (subst hi; exact ⟨rfl, rfl, rfl⟩) | (rcases hi with rfl | rfl | rfl <;> exact ⟨rfl, rfl, rfl⟩) | (rcases hi with rfl | rfl <;> exact ⟨rfl, rfl, rfl⟩)) hmk478 ?_
  intro p479 c480 sg481 w482 ho483 M484
  have M486 := M484.addNil
  obtain ⟨n485, n485e⟩ : ∃ s : Seg, s = [] := ⟨_, rfl⟩
  rw [← n485e] at ho483 M486
  refine W_run 1 [(0, .slice p466 x464.length c467), (3, .slice p479 mk478.length c480)] w482 (by kernel_rfl) ?_
  refine W_nil ?_
  refine N_then ?_
  refine G_seq ?_
  refine G_seq ?_
  refine G_region ?_
  refine W_run 1 [(0, .slice p466 x464.length c467), (3, .slice p479 mk478.length c480), (4, .int .i64 0)] w482 (by kernel_rfl) ?_
  refine W_nil ?_
  refine N_then ?_
  obtain ⟨out981, hw982, hmo983⟩ := gx_bind hm
  refine G_meet (fun a w' => ∃ (sg988 : Seg), ∃ (sg989 : Seg), ownD deepInterface out981 p479 c480 sg988 sg989 ∧ Mem [] w w' [sg988, sg989] ∧ Sat Tryz.f57.ntmps [(3, .slice p479 out981.length c480)] a) ?_ ?_
  · refine G_block ?_
    refine G_while (σ := Int × List Interface) (ρ := List Interface) (fun s974 a w' => ∃ (sg984 : Seg), ∃ (sg985 : Seg), ownD deepInterface s974.2 p479 c480 sg984 sg985 ∧ Mem [] w w' [sg984, sg985] ∧ Sat Tryz.f57.ntmps [(0, .slice p466 x464.length c467), (3, .slice p479 s974.2.length c480), (4, .int .i64 s974.1)] a) hw982 (fun a ha => ⟨sg481, n485, ho483, M486.pick [0, 1] (by kernel_rfl), ha.sub (by kernel_rfl)⟩) ?_
    clear hm
    intro s974 x975 hm hout976 a977 w978 ⟨sg984, sg985, ho986, M979, hS980⟩
    refine G_use hS980 ?_
    refine G_seq ?_
    refine G_seq ?_
    refine G_region ?_
    refine W_run 4 [(0, .slice p466 x464.length c467), (3, .slice p479 s974.2.length c480), (4, .int .i64 s974.1), (11, .bool (decide (s974.1 < (x464.length : Int))))] w978 (by kernel_rfl) ?_
    refine W_nil ?_
    refine N_then ?_
    rcases gx_bif hm with ⟨hc991, hm⟩ | ⟨hc991, hm⟩
    · refine G_cond_t (b := (decide (s974.1 < (x464.length : Int)))) hc991 (by kernel_rfl) ?_
      refine G_skip ?_
      refine N_then ?_
      refine G_seq ?_
      refine G_block ?_
      refine G_region ?_
      refine W_run 4 [(0, .slice p466 x464.length c467), (3, .slice p479 s974.2.length c480), (4, .int .i64 s974.1), (14, .slice p479 s974.2.length c480), (15, .int .i64 s974.1), (16, .slice p466 x464.length c467), (17, .int .i64 s974.1)] w978 (by kernel_rfl) ?_
      obtain ⟨y992, hy992, hm⟩ := gx_bind hm
      obtain ⟨zs993, hz994, hr995, hi996⟩ := id h468
      obtain ⟨g997, hg998⟩ := gxIdx_fst hz994 hy992
      refine W_val (elemP p466 (s974.1.toNat * 4)) w978 (by kernel_rfl) (E_index (E := deepInterface.E) _ _ _ x464.length c467 .i64 s974.1 4 (y := (y992, g997)) rfl (by kernel_rfl) (by kernel_rfl) (by kernel_rfl) (hr995.mem0 M979) (len_fst hz994) hg998) ?_
      refine W_val (.agg #[.int .i64 y992.Mask, .slice ((g997 0).1) y992.Stack.length ((g997 0).2), .slice ((g997 1).1) y992.Queue.Slots.length ((g997 1).2), .slice ((g997 2).1) y992.Queue.Waiting.length ((g997 2).2)]) w978 (by kernel_rfl) (E_loadE (E := deepInterface.E) _ _ true 4 s974.1 0 (s974.1.toNat * 4) (y992, g997) (.agg #[.int .i64 y992.Mask, .slice ((g997 0).1) y992.Stack.length ((g997 0).2), .slice ((g997 1).1) y992.Queue.Slots.length ((g997 1).2), .slice ((g997 2).1) y992.Queue.Waiting.length ((g997 2).2)]) rfl (by kernel_rfl) (by kernel_rfl) (by kernel_rfl) (hr995.mem0 M979) hg998 rfl) ?_
      obtain ⟨r1002, hr1002, hm⟩ := gx_bind hm
      refine W_call 107 #[.agg #[.int .i64 y992.Mask, .slice ((g997 0).1) y992.Stack.length ((g997 0).2), .slice ((g997 1).1) y992.Queue.Slots.length ((g997 1).2), .slice ((g997 2).1) y992.Queue.Waiting.length ((g997 2).2)]] (by kernel_rfl) (by kernel_rfl) ?_
      refine (c_l_toInterface w978 (⟨y992.Mask, y992.Stack, (⟨y992.Queue.Slots, y992.Queue.Waiting⟩ : Queue)⟩ : Interface) ((g997 0).1) ((g997 0).2) ((hi996.mem0 M979).at_ hg998 0 ⟨Int, Gx.encI, y992.Stack, (g997 0).1, (g997 0).2⟩ (by kernel_rfl)) ((g997 1).1) ((g997 1).2) ((hi996.mem0 M979).at_ hg998 1 ⟨Slot, encSlot, y992.Queue.Slots, (g997 1).1, (g997 1).2⟩ (by kernel_rfl)) ((g997 2).1) ((g997 2).2) ((hi996.mem0 M979).at_ hg998 2 ⟨Waiter, encWaiter, y992.Queue.Waiting, (g997 2).1, (g997 2).2⟩ (by kernel_rfl)) hr1002).mono ?_
      rintro e_ w1018 ⟨p1004, c1005, sg1006, p1009, c1010, sg1011, p1014, c1015, sg1016, rfl, ho1007, ho1012, ho1017, K1019⟩
      have M1020 := M979.call K1019
      refine ⟨_, rfl, ?_⟩
      obtain ⟨y1021, hy1021, hm⟩ := gx_bind hm
      obtain ⟨zs1022, hz1023, hr1024, hi1025⟩ := id ho986
      obtain ⟨g1026, hg1027⟩ := gxIdx_fst hz1023 hy1021
      refine W_val (elemP p479 (s974.1.toNat * 4)) w1018 (by kernel_rfl) (E_index (E := deepInterface.E) _ _ _ s974.2.length c480 .i64 s974.1 4 (y := (y1021, g1026)) rfl (by kernel_rfl) (by kernel_rfl) (by kernel_rfl) (hr1024.rd M1020 0 (by kernel_rfl)) (len_fst hz1023) hg1027) ?_
      obtain ⟨sa1031, sb1032, sc1033, hs1034, hb1035, hp1036⟩ := hi1025.lens (gxIdx_spec hg1027).2
      have M1037 := M1020.cut 1 (sa := sa1031) (sb := sb1032) (sc := sc1033) hs1034 (by kernel_rfl)
      refine W_storeE (E := deepInterface.E) _ _ _ true 4 s974.1.toNat 0 (s974.1.toNat * 4) (y1021, g1026) ((⟨r1002.Mask, r1002.Stack, (⟨r1002.Queue.Slots, r1002.Queue.Waiting⟩ : Queue)⟩ : Interface), (plOf [(p1004, c1005), (p1009, c1010), (p1014, c1015)])) (.agg #[.int .i64 r1002.Mask, .slice p1004 r1002.Stack.length c1005, .slice p1009 r1002.Queue.Slots.length c1010, .slice p1014 r1002.Queue.Waiting.length c1015]) 0 M1037 hr1024 (by kernel_rfl) (by kernel_rfl) rfl (by kernel_rfl) (by kernel_rfl) (by kernel_rfl) (by kernel_rfl) (by kernel_rfl) (by kernel_rfl) (by kernel_rfl) (gxIdx_spec hg1027).2 rfl ?_
      intro w1038 sg1040 ho1041 M1039
      have M1042 : Mem [] w w1038 [sg1040, sa1031, sg1006, sg1011, sg1016, sc1033] := M1039.pick [0, 1, 2, 3, 4, 6] (by kernel_rfl)
      have M1043 : Mem [] w w1038 [sg1040, (sa1031 ++ ((sg1006 ++ (sg1011 ++ (sg1016 ++ []))) ++ sc1033))] := M1042.regroup (by simp)
      have ho1044 : ownD deepInterface (s974.2.set s974.1.toNat (⟨r1002.Mask, r1002.Stack, (⟨r1002.Queue.Slots, r1002.Queue.Waiting⟩ : Queue)⟩ : Interface)) p479 c480 sg1040 (sa1031 ++ ((sg1006 ++ (sg1011 ++ (sg1016 ++ []))) ++ sc1033)) := ⟨_, set_fst hz1023 s974.1.toNat ((⟨r1002.Mask, r1002.Stack, (⟨r1002.Queue.Slots, r1002.Queue.Waiting⟩ : Queue)⟩ : Interface), (plOf [(p1004, c1005), (p1009, c1010), (p1014, c1015)])), ho1041, (hp1036 ((⟨r1002.Mask, r1002.Stack, (⟨r1002.Queue.Slots, r1002.Queue.Waiting⟩ : Queue)⟩ : Interface), (plOf [(p1004, c1005), (p1009, c1010), (p1014, c1015)])) _ (ownI_cons (i := ⟨Int, Gx.encI, _, _, _⟩) ho1007 (ownI_cons (i := ⟨Slot, encSlot, _, _, _⟩) ho1012 (ownI_cons (i := ⟨Waiter, encWaiter, _, _, _⟩) ho1017 ownI_nil))))⟩
      refine W_conv 3 (.slice p479 s974.2.length c480) (.slice p479 (s974.2.set s974.1.toNat (⟨r1002.Mask, r1002.Stack, (⟨r1002.Queue.Slots, r1002.Queue.Waiting⟩ : Queue)⟩ : Interface)).length c480) (by kernel_rfl) (by rw [@List.length_set _ s974.2 s974.1.toNat (⟨r1002.Mask, r1002.Stack, (⟨r1002.Queue.Slots, r1002.Queue.Waiting⟩ : Queue)⟩ : Interface)]) ?_
      refine W_conv 14 (.slice p479 s974.2.length c480) (.slice p479 (s974.2.set s974.1.toNat (⟨r1002.Mask, r1002.Stack, (⟨r1002.Queue.Slots, r1002.Queue.Waiting⟩ : Queue)⟩ : Interface)).length c480) (by kernel_rfl) (by rw [@List.length_set _ s974.2 s974.1.toNat (⟨r1002.Mask, r1002.Stack, (⟨r1002.Queue.Slots, r1002.Queue.Waiting⟩ : Queue)⟩ : Interface)]) ?_
      refine W_nil ?_
      refine N_block ?_
      refine N_then ?_
      refine G_region ?_
      refine W_run 3 [(0, .slice p466 x464.length c467), (3, .slice p479 (s974.2.set s974.1.toNat (⟨r1002.Mask, r1002.Stack, (⟨r1002.Queue.Slots, r1002.Queue.Waiting⟩ : Queue)⟩ : Interface)).length c480), (4, .int .i64 (w64 (s974.1 + 1)))] w1038 (by kernel_rfl) ?_
      refine W_nil ?_
      obtain rfl := Option.some.inj hm
      exact N_loop fun a ha => ⟨_, rfl, sg1040, (sa1031 ++ ((sg1006 ++ (sg1011 ++ (sg1016 ++ []))) ++ sc1033)), ho1044, M1043.pick [0, 1] (by kernel_rfl), ha.sub (by kernel_rfl)⟩
    · refine G_cond_f (b := (decide (s974.1 < (x464.length : Int)))) hc991 (by kernel_rfl) ?_
      refine G_exit ?_
      refine N_then_exit ?_
      refine N_then_exit ?_
      refine N_block_eq ?_
      obtain rfl := Option.some.inj hm
      obtain rfl := hout976 _ rfl
      exact N_meet fun a ha => ⟨sg984, sg985, ho986, M979.pick [0, 1] (by kernel_rfl), ha.sub (by kernel_rfl)⟩
  · intro a1045 w1046 ⟨sg988, sg989, ho990, M1047, hS1048⟩
    refine N_use hS1048 ?_
    have hm := hmo983
    refine N_then ?_
    refine G_seq ?_
    refine G_region ?_
    refine W_run 2 [(2, .slice p479 out981.length c480)] w1046 (by kernel_rfl) ?_
    refine W_nil ?_
    refine N_then ?_
    refine G_ret ?_
    obtain rfl := Option.some.inj hm
    refine N_ret [.slice p479 out981.length c480] (RVs_cons (RV_tmp (by kernel_rfl)) RVs_nil) ?_
    exact ⟨p479, c480, sg988, sg989, rfl, ho990, M1047.pick [0, 1] (by kernel_rfl)⟩
theorem c_l_toMachine (w : World) (x226 : Machine) (p228 : Option Addr) (c229 : Nat) (h230 : rdS encRoute w x226.Routes p228 c229) (p232 : Option Addr) (c233 : Nat) (h234 : rdS Gx.encB w x226.Enabled p232 c233) (p236 : Option Addr) (c237 : Nat) (h238 : rdS Gx.encB w x226.Raised p236 c237) (p240 : Option Addr) (c241 : Nat) (h242 : rdD deepInterface w x226.Cpus p240 c241) {r : Machine} (hm : M.l_toMachine x226 = some r) :
    Calls Tryz.prog 14 #[.agg #[.slice p228 x226.Routes.length c229, .slice p232 x226.Enabled.length c233, .slice p236 x226.Raised.length c237, .slice p240 x226.Cpus.length c241]] w fun e w' => ∃ (p244 : Option Addr) (c245 : Nat) (sg246 : Seg), ∃ (p248 : Option Addr) (c249 : Nat) (sg250 : Seg), ∃ (p252 : Option Addr) (c253 : Nat) (sg254 : Seg), ∃ (p256 : Option Addr) (c257 : Nat) (sg258 : Seg) (sg259 : Seg), e = .returned (.agg #[.slice p244 r.Routes.length c245, .slice p248 r.Enabled.length c249, .slice p252 r.Raised.length c253, .slice p256 r.Cpus.length c257]) ∧ ownS encRoute r.Routes p244 c245 sg246 ∧ ownS Gx.encB r.Enabled p248 c249 sg250 ∧ ownS Gx.encB r.Raised p252 c253 sg254 ∧ ownD deepInterface r.Cpus p256 c257 sg258 sg259 ∧ Mem [] w w' [sg246, sg250, sg254, sg258, sg259] := by
  unfold M.l_toMachine at hm
  refine C_enter Tryz.func14 rfl (by kernel_rfl) ?_
  have M0 := Mem.refl [] w
  refine G_seq ?_
  refine G_region ?_
  refine W_new (fun b => .pointer (some ⟨b, 0, none⟩)) (.cells ⟨[.slice p228 x226.Routes.length c229, .slice p232 x226.Enabled.length c233, .slice p236 x226.Raised.length c237, .slice p240 x226.Cpus.length c241]⟩ 26 (0, 0)) M0 rfl (by kernel_rfl) (by kernel_rfl) ?_
  intro b261 w262 M263
  refine W_new (fun b => .pointer (some ⟨b, 0, none⟩)) (.cells ⟨[.slice none 0 0, .slice none 0 0, .slice none 0 0, .slice none 0 0]⟩ 32 (0, 0)) M263 rfl (by kernel_rfl) (by kernel_rfl) ?_
  intro b269 w270 M271
  refine W_nil ?_
  refine N_then ?_
  refine G_seq ?_
  refine G_region ?_
  refine W_new (fun b => .pointer (some ⟨b, 0, none⟩)) (.cells ⟨[.slice none 0 0, .slice none 0 0, .slice none 0 0, .slice none 0 0]⟩ 32 (0, 0)) M271 rfl (by kernel_rfl) (by kernel_rfl) ?_
  intro b277 w278 M279
  refine W_nil ?_
  refine N_then ?_
  refine G_seq ?_
  refine G_region ?_
  refine W_run 1 [(1, .pointer (some ⟨b261, 0, none⟩)), (2, .pointer (some ⟨b269, 0, none⟩)), (3, .pointer (some ⟨b277, 0, none⟩)), (4, .pointer (some ⟨b261, 0, none⟩))] w278 (by kernel_rfl) ?_
  refine W_val (.slice p228 x226.Routes.length c229) w278 (by kernel_rfl) (E_load (e := 26) (fr := (0, 0)) _ _ false 1 b261 0 [.slice p228 x226.Routes.length c229, .slice p232 x226.Enabled.length c233, .slice p236 x226.Raised.length c237, .slice p240 x226.Cpus.length c241] (.slice p228 x226.Routes.length c229) rfl (by kernel_rfl) (by kernel_rfl) (by kernel_rfl) (M279.blk 0 (b := b261) (o := .cells ⟨[.slice p228 x226.Routes.length c229, .slice p232 x226.Enabled.length c233, .slice p236 x226.Raised.length c237, .slice p240 x226.Cpus.length c241]⟩ 26 (0, 0)) (by kernel_rfl))) ?_
  obtain ⟨r371, hr371, hm⟩ := gx_bind hm
  refine W_call 55 #[.slice p228 x226.Routes.length c229] (by kernel_rfl) (by kernel_rfl) ?_
  refine (c_l_toRouteS w278 x226.Routes p228 c229 (h230.mem0 M279) hr371).mono ?_
  rintro e_ w377 ⟨p373, c374, sg375, rfl, ho376, K378⟩
  have M379 := M279.call K378
  refine ⟨_, rfl, ?_⟩
  refine W_run 1 [(1, .pointer (some ⟨b261, 0, none⟩)), (2, .pointer (some ⟨b269, 0, none⟩)), (3, .pointer (some ⟨b277, 0, none⟩)), (6, .slice p373 r371.length c374), (7, .pointer (some ⟨b277, 0, none⟩))] w377 (by kernel_rfl) ?_
  refine W_store _ _ _ false 1 b277 0 [.slice none 0 0, .slice none 0 0, .slice none 0 0, .slice none 0 0] 32 (.slice p373 r371.length c374) 2 [.slice p373 r371.length c374, .slice none 0 0, .slice none 0 0, .slice none 0 0] M379 (by kernel_rfl) rfl (by kernel_rfl) (by kernel_rfl) (by kernel_rfl) (by kernel_rfl) (by kernel_rfl) (by kernel_rfl) (by kernel_rfl) (by kernel_rfl) ?_
  intro w380 M381
  refine W_nil ?_
  refine N_then ?_
  refine G_seq ?_
  refine G_region ?_
  refine W_run 1 [(1, .pointer (some ⟨b261, 0, none⟩)), (2, .pointer (some ⟨b269, 0, none⟩)), (3, .pointer (some ⟨b277, 0, none⟩)), (8, .pointer (some ⟨b261, 1, none⟩))] w380 (by kernel_rfl) ?_
  refine W_val (.slice p232 x226.Enabled.length c233) w380 (by kernel_rfl) (E_load (e := 26) (fr := (0, 0)) _ _ false 1 b261 1 [.slice p228 x226.Routes.length c229, .slice p232 x226.Enabled.length c233, .slice p236 x226.Raised.length c237, .slice p240 x226.Cpus.length c241] (.slice p232 x226.Enabled.length c233) rfl (by kernel_rfl) (by kernel_rfl) (by kernel_rfl) (M381.blk 0 (b := b261) (o := .cells ⟨[.slice p228 x226.Routes.length c229, .slice p232 x226.Enabled.length c233, .slice p236 x226.Raised.length c237, .slice p240 x226.Cpus.length c241]⟩ 26 (0, 0)) (by kernel_rfl))) ?_
  obtain ⟨r442, hr442, hm⟩ := gx_bind hm
  refine W_call 56 #[.slice p232 x226.Enabled.length c233] (by kernel_rfl) (by kernel_rfl) ?_
  refine (c_l_toBoolS w380 x226.Enabled p232 c233 (h234.mem0 M381) hr442).mono ?_
  rintro e_ w448 ⟨p444, c445, sg446, rfl, ho447, K449⟩
  have M450 := M381.call K449
  refine ⟨_, rfl, ?_⟩
  refine W_run 1 [(1, .pointer (some ⟨b261, 0, none⟩)), (2, .pointer (some ⟨b269, 0, none⟩)), (3, .pointer (some ⟨b277, 0, none⟩)), (10, .slice p444 r442.length c445), (11, .pointer (some ⟨b277, 1, none⟩))] w448 (by kernel_rfl) ?_
  refine W_store _ _ _ false 1 b277 1 [.slice p373 r371.length c374, .slice none 0 0, .slice none 0 0, .slice none 0 0] 32 (.slice p444 r442.length c445) 2 [.slice p373 r371.length c374, .slice p444 r442.length c445, .slice none 0 0, .slice none 0 0] M450 (by kernel_rfl) rfl (by kernel_rfl) (by kernel_rfl) (by kernel_rfl) (by kernel_rfl) (by kernel_rfl) (by kernel_rfl) (by kernel_rfl) (by kernel_rfl) ?_
  intro w451 M452
  refine W_nil ?_
  refine N_then ?_
  refine G_seq ?_
  refine G_region ?_
  refine W_run 1 [(1, .pointer (some ⟨b261, 0, none⟩)), (2, .pointer (some ⟨b269, 0, none⟩)), (3, .pointer (some ⟨b277, 0, none⟩)), (12, .pointer (some ⟨b261, 2, none⟩))] w451 (by kernel_rfl) ?_
  refine W_val (.slice p236 x226.Raised.length c237) w451 (by kernel_rfl) (E_load (e := 26) (fr := (0, 0)) _ _ false 1 b261 2 [.slice p228 x226.Routes.length c229, .slice p232 x226.Enabled.length c233, .slice p236 x226.Raised.length c237, .slice p240 x226.Cpus.length c241] (.slice p236 x226.Raised.length c237) rfl (by kernel_rfl) (by kernel_rfl) (by kernel_rfl) (M452.blk 0 (b := b261) (o := .cells ⟨[.slice p228 x226.Routes.length c229, .slice p232 x226.Enabled.length c233, .slice p236 x226.Raised.length c237, .slice p240 x226.Cpus.length c241]⟩ 26 (0, 0)) (by kernel_rfl))) ?_
  obtain ⟨r453, hr453, hm⟩ := gx_bind hm
  refine W_call 56 #[.slice p236 x226.Raised.length c237] (by kernel_rfl) (by kernel_rfl) ?_
  refine (c_l_toBoolS w451 x226.Raised p236 c237 (h238.mem0 M452) hr453).mono ?_
  rintro e_ w459 ⟨p455, c456, sg457, rfl, ho458, K460⟩
  have M461 := M452.call K460
  refine ⟨_, rfl, ?_⟩
  refine W_run 1 [(1, .pointer (some ⟨b261, 0, none⟩)), (2, .pointer (some ⟨b269, 0, none⟩)), (3, .pointer (some ⟨b277, 0, none⟩)), (14, .slice p455 r453.length c456), (15, .pointer (some ⟨b277, 2, none⟩))] w459 (by kernel_rfl) ?_
  refine W_store _ _ _ false 1 b277 2 [.slice p373 r371.length c374, .slice p444 r442.length c445, .slice none 0 0, .slice none 0 0] 32 (.slice p455 r453.length c456) 2 [.slice p373 r371.length c374, .slice p444 r442.length c445, .slice p455 r453.length c456, .slice none 0 0] M461 (by kernel_rfl) rfl (by kernel_rfl) (by kernel_rfl) (by kernel_rfl) (by kernel_rfl) (by kernel_rfl) (by kernel_rfl) (by kernel_rfl) (by kernel_rfl) ?_
  intro w462 M463
  refine W_nil ?_
  refine N_then ?_
  refine G_seq ?_
  refine G_region ?_
  refine W_run 1 [(2, .pointer (some ⟨b269, 0, none⟩)), (3, .pointer (some ⟨b277, 0, none⟩)), (16, .pointer (some ⟨b261, 3, none⟩))] w462 (by kernel_rfl) ?_
  refine W_val (.slice p240 x226.Cpus.length c241) w462 (by kernel_rfl) (E_load (e := 26) (fr := (0, 0)) _ _ false 1 b261 3 [.slice p228 x226.Routes.length c229, .slice p232 x226.Enabled.length c233, .slice p236 x226.Raised.length c237, .slice p240 x226.Cpus.length c241] (.slice p240 x226.Cpus.length c241) rfl (by kernel_rfl) (by kernel_rfl) (by kernel_rfl) (M463.blk 0 (b := b261) (o := .cells ⟨[.slice p228 x226.Routes.length c229, .slice p232 x226.Enabled.length c233, .slice p236 x226.Raised.length c237, .slice p240 x226.Cpus.length c241]⟩ 26 (0, 0)) (by kernel_rfl))) ?_
  obtain ⟨r1049, hr1049, hm⟩ := gx_bind hm
  refine W_call 57 #[.slice p240 x226.Cpus.length c241] (by kernel_rfl) (by kernel_rfl) ?_
  refine (c_l_toInterfaceS w462 x226.Cpus p240 c241 (h242.mem0 M463) hr1049).mono ?_
  rintro e_ w1056 ⟨p1051, c1052, sg1053, sg1054, rfl, ho1055, K1057⟩
  have M1058 := M463.call K1057
  refine ⟨_, rfl, ?_⟩
  refine W_run 1 [(2, .pointer (some ⟨b269, 0, none⟩)), (3, .pointer (some ⟨b277, 0, none⟩)), (18, .slice p1051 r1049.length c1052), (19, .pointer (some ⟨b277, 3, none⟩))] w1056 (by kernel_rfl) ?_
  refine W_store _ _ _ false 1 b277 3 [.slice p373 r371.length c374, .slice p444 r442.length c445, .slice p455 r453.length c456, .slice none 0 0] 32 (.slice p1051 r1049.length c1052) 2 [.slice p373 r371.length c374, .slice p444 r442.length c445, .slice p455 r453.length c456, .slice p1051 r1049.length c1052] M1058 (by kernel_rfl) rfl (by kernel_rfl) (by kernel_rfl) (by kernel_rfl) (by kernel_rfl) (by kernel_rfl) (by kernel_rfl) (by kernel_rfl) (by kernel_rfl) ?_
  intro w1059 M1060
  refine W_nil ?_
  refine N_then ?_
  refine G_seq ?_
  refine G_region ?_
  refine W_val (.agg #[.slice p373 r371.length c374, .slice p444 r442.length c445, .slice p455 r453.length c456, .slice p1051 r1049.length c1052]) w1059 (by kernel_rfl) (E_load (e := 32) (fr := (0, 0)) _ _ true 4 b277 0 [.slice p373 r371.length c374, .slice p444 r442.length c445, .slice p455 r453.length c456, .slice p1051 r1049.length c1052] (.agg #[.slice p373 r371.length c374, .slice p444 r442.length c445, .slice p455 r453.length c456, .slice p1051 r1049.length c1052]) rfl (by kernel_rfl) (by kernel_rfl) (by kernel_rfl) (M1060.blk 2 (b := b277) (o := .cells ⟨[.slice p373 r371.length c374, .slice p444 r442.length c445, .slice p455 r453.length c456, .slice p1051 r1049.length c1052]⟩ 32 (0, 0)) (by kernel_rfl))) ?_
  refine W_store _ _ _ true 4 b269 0 [.slice none 0 0, .slice none 0 0, .slice none 0 0, .slice none 0 0] 32 (.agg #[.slice p373 r371.length c374, .slice p444 r442.length c445, .slice p455 r453.length c456, .slice p1051 r1049.length c1052]) 1 [.slice p373 r371.length c374, .slice p444 r442.length c445, .slice p455 r453.length c456, .slice p1051 r1049.length c1052] M1060 (by kernel_rfl) rfl (by kernel_rfl) (by kernel_rfl) (by kernel_rfl) (by kernel_rfl) (by kernel_rfl) (by kernel_rfl) (by kernel_rfl) (by kernel_rfl) ?_
  intro w1061 M1062
  refine W_nil ?_
  refine N_then ?_
  refine G_ret ?_
  obtain rfl := Option.some.inj hm
  refine N_ret [.agg #[.slice p373 r371.length c374, .slice p444 r442.length c445, .slice p455 r453.length c456, .slice p1051 r1049.length c1052]] (RVs_cons (RV_cell (g := true) (k := 4) (b := b269) (off := 0) (cs := [.slice p373 r371.length c374, .slice p444 r442.length c445, .slice p455 r453.length c456, .slice p1051 r1049.length c1052]) (e := 32) (fr := (0, 0)) (v := .agg #[.slice p373 r371.length c374, .slice p444 r442.length c445, .slice p455 r453.length c456, .slice p1051 r1049.length c1052]) (M1062.blk 1 (b := b269) (o := .cells ⟨[.slice p373 r371.length c374, .slice p444 r442.length c445, .slice p455 r453.length c456, .slice p1051 r1049.length c1052]⟩ 32 (0, 0)) (by kernel_rfl)) (by kernel_rfl) (by kernel_rfl) (by kernel_rfl)) RVs_nil) ?_
  exact ⟨p373, c374, sg375, p444, c445, sg446, p455, c456, sg457, p1051, c1052, sg1053, sg1054, rfl, ho376, ho447, ho458, ho1055, M1062.pick [3, 4, 5, 6, 7] (by kernel_rfl)⟩
theorem c_s_l1In (w : World) (x1139 : Int) (x1140 : Int) (x1141 : Int) {r : Bool} (hm : M.s_l1In x1139 x1140 x1141 = some r) :
    Calls Tryz.prog 124 #[.int .i64 x1139, .int .i64 x1140, .int .i64 x1141] w fun e w' => e = .returned (.bool r) ∧ Mem [] w w' [] := by
  unfold M.s_l1In at hm
  refine C_enter Tryz.func124 rfl (by kernel_rfl) ?_
  have M0 := Mem.refl [] w
  refine G_seq ?_
  refine G_region ?_
  refine W_run 1 [(0, .int .i64 x1139), (1, .int .i64 x1140), (2, .int .i64 x1141)] w (by kernel_rfl) ?_
  refine W_nil ?_
  refine N_then ?_
  refine G_seq ?_
  obtain ⟨o1143, ho1144, hm1145⟩ := gx_bind hm
  refine G_meet (fun a w' => Mem [] w w' [] ∧ Sat Tryz.f124.ntmps [(6, .bool o1143)] a) ?_ ?_
  · have hm := ho1144
    refine G_region ?_
    refine W_run 4 [(0, .int .i64 x1139), (2, .int .i64 x1141), (10, .bool (decide (x1139 ≥ x1140)))] w (by kernel_rfl) ?_
    rcases gx_bif hm with ⟨hc1146, hm⟩ | ⟨hc1146, hm⟩
    · refine W_known 10 true (by kernel_rfl) hc1146 ?_
      refine W_run 5 [(6, .bool (decide (x1139 ≤ x1141)))] w (by kernel_rfl) ?_
      refine W_nil ?_
      obtain rfl := Option.some.inj hm
      exact N_meet fun a ha => ⟨M0.pick [] (by kernel_rfl), ha.sub (by kernel_rfl)⟩
    · refine W_known 10 false (by kernel_rfl) hc1146 ?_
      refine W_run 5 [(6, .bool false)] w (by kernel_rfl) ?_
      refine W_nil ?_
      obtain rfl := Option.some.inj hm
      exact N_meet fun a ha => ⟨M0.pick [] (by kernel_rfl), ha.sub (by kernel_rfl)⟩
  · intro a1149 w1147 ⟨M1148, hS1150⟩
    refine N_use hS1150 ?_
    have hm := hm1145
    refine N_then ?_
    refine G_ret ?_
    obtain rfl := Option.some.inj hm
    refine N_ret [.bool o1143] (RVs_cons (RV_tmp (by kernel_rfl)) RVs_nil) ?_
    exact ⟨rfl, M1148.pick [] (by kernel_rfl)⟩
theorem c_s_l6Prio (w : World) (x1138 : Int) {r : Bool} (hm : M.s_l6Prio x1138 = some r) :
    Calls Tryz.prog 150 #[.int .i64 x1138] w fun e w' => e = .returned (.bool r) ∧ Mem [] w w' [] := by
  unfold M.s_l6Prio at hm
  refine C_enter Tryz.func150 rfl (by kernel_rfl) ?_
  have M0 := Mem.refl [] w
  refine G_seq ?_
  refine G_region ?_
  refine W_run 1 [(0, .int .i64 x1138)] w (by kernel_rfl) ?_
  refine W_nil ?_
  refine N_then ?_
  refine G_seq ?_
  refine G_region ?_
  refine W_run 1 [(3, .int .i64 x1138)] w (by kernel_rfl) ?_
  obtain ⟨r1151, hr1151, hm⟩ := gx_bind hm
  refine W_call 124 #[.int .i64 x1138, .int .i64 0, .int .i64 15] (by kernel_rfl) (by kernel_rfl) ?_
  refine (c_s_l1In w x1138 0 15 hr1151).mono ?_
  rintro e_ w1152 ⟨rfl, K1153⟩
  have M1154 := M0.call0 K1153
  refine ⟨_, rfl, ?_⟩
  refine W_run 1 [(2, .bool r1151)] w1152 (by kernel_rfl) ?_
  refine W_nil ?_
  refine N_then ?_
  refine G_ret ?_
  obtain rfl := Option.some.inj hm
  refine N_ret [.bool r1151] (RVs_cons (RV_tmp (by kernel_rfl)) RVs_nil) ?_
  exact ⟨rfl, M1154.pick [] (by kernel_rfl)⟩
theorem c_s_l21Routes (w : World) (x1130 : List Route) (p1132 : Option Addr) (c1133 : Nat) (h1134 : rdS encRoute w x1130 p1132 c1133) (x1135 : Int) {r : Bool} (hm : M.s_l21Routes x1130 x1135 = some r) :
    Calls Tryz.prog 99 #[.slice p1132 x1130.length c1133, .int .i64 x1135] w fun e w' => e = .returned (.bool r) ∧ Mem [] w w' [] := by
  unfold M.s_l21Routes at hm
  refine C_enter Tryz.func99 rfl (by kernel_rfl) ?_
  have M0 := Mem.refl [] w
  refine G_seq ?_
  refine G_region ?_
  refine W_run 1 [(0, .slice p1132 x1130.length c1133), (1, .int .i64 x1135)] w (by kernel_rfl) ?_
  refine W_nil ?_
  refine N_then ?_
  refine G_seq ?_
  refine G_seq ?_
  refine G_region ?_
  refine W_run 1 [(0, .slice p1132 x1130.length c1133), (1, .int .i64 x1135), (5, .int .i64 0)] w (by kernel_rfl) ?_
  refine W_nil ?_
  refine N_then ?_
  obtain ⟨out1222, hw1223, hmo1224⟩ := gx_bind hm
  refine G_meet (fun a w' => ∃ (o1225 : Unit), out1222 = .inl o1225 ∧ Mem [] w w' [] ∧ Sat Tryz.f99.ntmps [(0, .slice p1132 x1130.length c1133), (1, .int .i64 x1135)] a) ?_ ?_
  · refine G_block ?_
    refine G_while (σ := Int) (ρ := (Unit) ⊕ (Bool)) (fun s1215 a w' => Mem [] w w' [] ∧ Sat Tryz.f99.ntmps [(0, .slice p1132 x1130.length c1133), (1, .int .i64 x1135), (5, .int .i64 s1215)] a) hw1223 (fun a ha => ⟨M0.pick [] (by kernel_rfl), ha.sub (by kernel_rfl)⟩) ?_
    clear hm
    intro s1215 x1216 hm hout1217 a1218 w1219 ⟨M1220, hS1221⟩
    refine G_use hS1221 ?_
    refine G_seq ?_
    refine G_seq ?_
    refine G_region ?_
    refine W_run 4 [(0, .slice p1132 x1130.length c1133), (1, .int .i64 x1135), (5, .int .i64 s1215), (9, .bool (decide (s1215 < (x1130.length : Int))))] w1219 (by kernel_rfl) ?_
    refine W_nil ?_
    refine N_then ?_
    rcases gx_bif hm with ⟨hc1226, hm⟩ | ⟨hc1226, hm⟩
    · refine G_cond_t (b := (decide (s1215 < (x1130.length : Int)))) hc1226 (by kernel_rfl) ?_
      refine G_skip ?_
      refine N_then ?_
      refine G_seq ?_
      refine G_block ?_
      refine G_seq ?_
      obtain ⟨o1238, ho1239, hm1240⟩ := gx_bind hm
      refine G_meet (fun a w' => Mem [] w w' [] ∧ Sat Tryz.f99.ntmps [(0, .slice p1132 x1130.length c1133), (1, .int .i64 x1135), (5, .int .i64 s1215), (29, .bool o1238)] a) ?_ ?_
      · have hm := ho1239
        refine G_region ?_
        refine W_run 2 [(0, .slice p1132 x1130.length c1133), (1, .int .i64 x1135), (5, .int .i64 s1215), (12, .slice p1132 x1130.length c1133), (13, .int .i64 s1215)] w1219 (by kernel_rfl) ?_
        obtain ⟨y1241, hy1241, hm⟩ := gx_bind hm
        refine W_val (elemP p1132 (s1215.toNat * 2)) w1219 (by kernel_rfl) (E_index (E := encRoute) _ _ _ x1130.length c1133 .i64 s1215 2 (y := y1241) rfl (by kernel_rfl) (by kernel_rfl) (by kernel_rfl) (h1134.mem0 M1220) rfl hy1241) ?_
        refine W_val (elemP p1132 (s1215.toNat * 2 + 0)) w1219 (by kernel_rfl) (E_fieldE (E := encRoute) _ _ 0 (s1215.toNat * 2) 0 rfl (by kernel_rfl) (by kernel_rfl) (h1134.mem0 M1220) hy1241) ?_
        refine W_val (.int .i64 y1241.Priority) w1219 (by kernel_rfl) (E_loadE (E := encRoute) _ _ false 1 s1215 0 (s1215.toNat * 2 + 0) y1241 (.int .i64 y1241.Priority) rfl (by kernel_rfl) (by kernel_rfl) (by kernel_rfl) (h1134.mem0 M1220) hy1241 rfl) ?_
        obtain ⟨r1242, hr1242, hm⟩ := gx_bind hm
        refine W_call 150 #[.int .i64 y1241.Priority] (by kernel_rfl) (by kernel_rfl) ?_
        refine (c_s_l6Prio w1219 y1241.Priority hr1242).mono ?_
        rintro e_ w1243 ⟨rfl, K1244⟩
        have M1245 := M1220.call0 K1244
        refine ⟨_, rfl, ?_⟩
        refine W_run 2 [(0, .slice p1132 x1130.length c1133), (1, .int .i64 x1135), (5, .int .i64 s1215), (19, .bool (!r1242))] w1243 (by kernel_rfl) ?_
        rcases gx_bif hm with ⟨hc1246, hm⟩ | ⟨hc1246, hm⟩
        · refine W_known 19 true (by kernel_rfl) hc1246 ?_
          refine W_run 10 [(0, .slice p1132 x1130.length c1133), (1, .int .i64 x1135), (5, .int .i64 s1215), (29, .bool true)] w1243 (by kernel_rfl) ?_
          refine W_nil ?_
          obtain rfl := Option.some.inj hm
          exact N_meet fun a ha => ⟨M1245.pick [] (by kernel_rfl), ha.sub (by kernel_rfl)⟩
        · refine W_known 19 false (by kernel_rfl) hc1246 ?_
          refine W_run 2 [(0, .slice p1132 x1130.length c1133), (1, .int .i64 x1135), (5, .int .i64 s1215), (19, .bool false), (20, .slice p1132 x1130.length c1133), (21, .int .i64 s1215)] w1243 (by kernel_rfl) ?_
          obtain ⟨y1247, hy1247, hm⟩ := gx_bind hm
          refine W_val (elemP p1132 (s1215.toNat * 2)) w1243 (by kernel_rfl) (E_index (E := encRoute) _ _ _ x1130.length c1133 .i64 s1215 2 (y := y1247) rfl (by kernel_rfl) (by kernel_rfl) (by kernel_rfl) (h1134.mem0 M1245) rfl hy1247) ?_
          refine W_val (elemP p1132 (s1215.toNat * 2 + 1)) w1243 (by kernel_rfl) (E_fieldE (E := encRoute) _ _ 1 (s1215.toNat * 2) 1 rfl (by kernel_rfl) (by kernel_rfl) (h1134.mem0 M1245) hy1247) ?_
          refine W_val (.int .i64 y1247.Target) w1243 (by kernel_rfl) (E_loadE (E := encRoute) _ _ false 1 s1215 1 (s1215.toNat * 2 + 1) y1247 (.int .i64 y1247.Target) rfl (by kernel_rfl) (by kernel_rfl) (by kernel_rfl) (h1134.mem0 M1245) hy1247 rfl) ?_
          refine W_run 2 [(0, .slice p1132 x1130.length c1133), (1, .int .i64 x1135), (5, .int .i64 s1215), (19, .bool false), (24, .int .i64 y1247.Target), (26, .int .i64 (w64 (x1135 - 1)))] w1243 (by kernel_rfl) ?_
          obtain ⟨r1248, hr1248, hm⟩ := gx_bind hm
          refine W_call 124 #[.int .i64 y1247.Target, .int .i64 0, .int .i64 (w64 (x1135 - 1))] (by kernel_rfl) (by kernel_rfl) ?_
          refine (c_s_l1In w1243 y1247.Target 0 (w64 (x1135 - 1)) hr1248).mono ?_
          rintro e_ w1249 ⟨rfl, K1250⟩
          have M1251 := M1245.call0 K1250
          refine ⟨_, rfl, ?_⟩
          refine W_run 2 [(0, .slice p1132 x1130.length c1133), (1, .int .i64 x1135), (5, .int .i64 s1215), (29, .bool (!r1248))] w1249 (by kernel_rfl) ?_
          refine W_nil ?_
          obtain rfl := Option.some.inj hm
          exact N_meet fun a ha => ⟨M1251.pick [] (by kernel_rfl), ha.sub (by kernel_rfl)⟩
      · intro a1254 w1252 ⟨M1253, hS1255⟩
        refine N_use hS1255 ?_
        have hm := hm1240
        refine N_then ?_
        rcases gx_bif hm with ⟨hc1256, hm⟩ | ⟨hc1256, hm⟩
        · refine G_cond_t (b := o1238) hc1256 (by kernel_rfl) ?_
          refine G_seq ?_
          refine G_region ?_
          refine W_run 1 [(4, .bool false)] w1252 (by kernel_rfl) ?_
          refine W_nil ?_
          refine N_then ?_
          refine G_ret ?_
          refine N_block_ret ?_
          refine N_then_ret ?_
          refine N_then_ret ?_
          obtain rfl := Option.some.inj hm
          obtain rfl := hout1217 _ rfl
          have hm := hmo1224; simp only [Sum.elim_inr] at hm
          refine N_block_ret ?_
          refine N_meet_ret ?_
          refine N_then_ret ?_
          obtain rfl := Option.some.inj hm
          refine N_ret [.bool false] (RVs_cons (RV_tmp (by kernel_rfl)) RVs_nil) ?_
          exact ⟨rfl, M1253.pick [] (by kernel_rfl)⟩
        · refine G_cond_f (b := o1238) hc1256 (by kernel_rfl) ?_
          refine G_skip ?_
          refine N_block ?_
          refine N_then ?_
          refine G_region ?_
          refine W_run 3 [(0, .slice p1132 x1130.length c1133), (1, .int .i64 x1135), (5, .int .i64 (w64 (s1215 + 1)))] w1252 (by kernel_rfl) ?_
          refine W_nil ?_
          obtain rfl := Option.some.inj hm
          exact N_loop fun a ha => ⟨_, rfl, M1253.pick [] (by kernel_rfl), ha.sub (by kernel_rfl)⟩
    · refine G_cond_f (b := (decide (s1215 < (x1130.length : Int)))) hc1226 (by kernel_rfl) ?_
      refine G_exit ?_
      refine N_then_exit ?_
      refine N_then_exit ?_
      refine N_block_eq ?_
      obtain rfl := Option.some.inj hm
      obtain rfl := hout1217 _ rfl
      exact N_meet fun a ha => ⟨_, rfl, M1220.pick [] (by kernel_rfl), ha.sub (by kernel_rfl)⟩
  · intro a1257 w1258 ⟨o1225, hout_, M1259, hS1260⟩
    refine N_use hS1260 ?_
    subst hout_
    have hm := hmo1224; simp only [Sum.elim_inl] at hm
    refine N_then ?_
    refine G_seq ?_
    obtain ⟨o1266, ho1267, hm1268⟩ := gx_bind hm
    refine G_meet (fun a w' => Mem [] w w' [] ∧ Sat Tryz.f99.ntmps [(4, .bool o1266)] a) ?_ ?_
    · have hm := ho1267
      refine G_region ?_
      refine W_run 1 [(0, .slice p1132 x1130.length c1133), (30, .int .i64 x1135)] w1258 (by kernel_rfl) ?_
      obtain ⟨r1269, hr1269, hm⟩ := gx_bind hm
      refine W_call 124 #[.int .i64 x1135, .int .i64 1, .int .i64 2] (by kernel_rfl) (by kernel_rfl) ?_
      refine (c_s_l1In w1258 x1135 1 2 hr1269).mono ?_
      rintro e_ w1270 ⟨rfl, K1271⟩
      have M1272 := M1259.call0 K1271
      refine ⟨_, rfl, ?_⟩
      refine W_run 1 [(0, .slice p1132 x1130.length c1133), (32, .bool r1269)] w1270 (by kernel_rfl) ?_
      rcases gx_bif hm with ⟨hc1273, hm⟩ | ⟨hc1273, hm⟩
      · refine W_known 32 true (by kernel_rfl) hc1273 ?_
        refine W_run 5 [(4, .bool ((x1130.length : Int) == 8))] w1270 (by kernel_rfl) ?_
        refine W_nil ?_
        obtain rfl := Option.some.inj hm
        exact N_meet fun a ha => ⟨M1272.pick [] (by kernel_rfl), ha.sub (by kernel_rfl)⟩
      · refine W_known 32 false (by kernel_rfl) hc1273 ?_
        refine W_run 5 [(4, .bool false)] w1270 (by kernel_rfl) ?_
        refine W_nil ?_
        obtain rfl := Option.some.inj hm
        exact N_meet fun a ha => ⟨M1272.pick [] (by kernel_rfl), ha.sub (by kernel_rfl)⟩
    · intro a1276 w1274 ⟨M1275, hS1277⟩
      refine N_use hS1277 ?_
      have hm := hm1268
      refine N_then ?_
      refine G_ret ?_
      obtain rfl := Option.some.inj hm
      refine N_ret [.bool o1266] (RVs_cons (RV_tmp (by kernel_rfl)) RVs_nil) ?_
      exact ⟨rfl, M1275.pick [] (by kernel_rfl)⟩
theorem c_s_l6Irq (w : World) (x1371 : Int) {r : Bool} (hm : M.s_l6Irq x1371 = some r) :
    Calls Tryz.prog 143 #[.int .i64 x1371] w fun e w' => e = .returned (.bool r) ∧ Mem [] w w' [] := by
  unfold M.s_l6Irq at hm
  refine C_enter Tryz.func143 rfl (by kernel_rfl) ?_
  have M0 := Mem.refl [] w
  refine G_seq ?_
  refine G_region ?_
  refine W_run 1 [(0, .int .i64 x1371)] w (by kernel_rfl) ?_
  refine W_nil ?_
  refine N_then ?_
  refine G_seq ?_
  refine G_region ?_
  refine W_run 1 [(3, .int .i64 x1371)] w (by kernel_rfl) ?_
  obtain ⟨r1372, hr1372, hm⟩ := gx_bind hm
  refine W_call 124 #[.int .i64 x1371, .int .i64 0, .int .i64 7] (by kernel_rfl) (by kernel_rfl) ?_
  refine (c_s_l1In w x1371 0 7 hr1372).mono ?_
  rintro e_ w1373 ⟨rfl, K1374⟩
  have M1375 := M0.call0 K1374
  refine ⟨_, rfl, ?_⟩
  refine W_run 1 [(2, .bool r1372)] w1373 (by kernel_rfl) ?_
  refine W_nil ?_
  refine N_then ?_
  refine G_ret ?_
  obtain rfl := Option.some.inj hm
  refine N_ret [.bool r1372] (RVs_cons (RV_tmp (by kernel_rfl)) RVs_nil) ?_
  exact ⟨rfl, M1375.pick [] (by kernel_rfl)⟩
theorem c_s_l8Find (w : World) (x1386 : List Slot) (p1388 : Option Addr) (c1389 : Nat) (h1390 : rdS encSlot w x1386 p1388 c1389) (x1391 : Int) {r : Int} (hm : M.s_l8Find x1386 x1391 = some r) :
    Calls Tryz.prog 192 #[.slice p1388 x1386.length c1389, .int .i64 x1391] w fun e w' => e = .returned (.int .i64 r) ∧ Mem [] w w' [] := by
  unfold M.s_l8Find at hm
  refine C_enter Tryz.func192 rfl (by kernel_rfl) ?_
  have M0 := Mem.refl [] w
  refine G_seq ?_
  refine G_region ?_
  refine W_run 1 [(0, .slice p1388 x1386.length c1389), (1, .int .i64 x1391)] w (by kernel_rfl) ?_
  refine W_nil ?_
  refine N_then ?_
  refine G_seq ?_
  refine G_seq ?_
  refine G_region ?_
  refine W_run 1 [(0, .slice p1388 x1386.length c1389), (1, .int .i64 x1391), (5, .int .i64 0)] w (by kernel_rfl) ?_
  refine W_nil ?_
  refine N_then ?_
  obtain ⟨out1429, hw1430, hmo1431⟩ := gx_bind hm
  refine G_meet (fun a w' => ∃ (o1432 : Unit), out1429 = .inl o1432 ∧ Mem [] w w' [] ∧ Sat Tryz.f192.ntmps [] a) ?_ ?_
  · refine G_block ?_
    refine G_while (σ := Int) (ρ := (Unit) ⊕ (Int)) (fun s1422 a w' => Mem [] w w' [] ∧ Sat Tryz.f192.ntmps [(0, .slice p1388 x1386.length c1389), (1, .int .i64 x1391), (5, .int .i64 s1422)] a) hw1430 (fun a ha => ⟨M0.pick [] (by kernel_rfl), ha.sub (by kernel_rfl)⟩) ?_
    clear hm
    intro s1422 x1423 hm hout1424 a1425 w1426 ⟨M1427, hS1428⟩
    refine G_use hS1428 ?_
    refine G_seq ?_
    refine G_seq ?_
    refine G_region ?_
    refine W_run 4 [(0, .slice p1388 x1386.length c1389), (1, .int .i64 x1391), (5, .int .i64 s1422), (9, .bool (decide (s1422 < (x1386.length : Int))))] w1426 (by kernel_rfl) ?_
    refine W_nil ?_
    refine N_then ?_
    rcases gx_bif hm with ⟨hc1433, hm⟩ | ⟨hc1433, hm⟩
    · refine G_cond_t (b := (decide (s1422 < (x1386.length : Int)))) hc1433 (by kernel_rfl) ?_
      refine G_skip ?_
      refine N_then ?_
      refine G_seq ?_
      refine G_block ?_
      refine G_seq ?_
      obtain ⟨o1437, ho1438, hm1439⟩ := gx_bind hm
      refine G_meet (fun a w' => Mem [] w w' [] ∧ Sat Tryz.f192.ntmps [(0, .slice p1388 x1386.length c1389), (1, .int .i64 x1391), (5, .int .i64 s1422), (26, .bool o1437)] a) ?_ ?_
      · have hm := ho1438
        refine G_region ?_
        refine W_run 2 [(0, .slice p1388 x1386.length c1389), (1, .int .i64 x1391), (5, .int .i64 s1422), (12, .slice p1388 x1386.length c1389), (13, .int .i64 s1422)] w1426 (by kernel_rfl) ?_
        obtain ⟨y1440, hy1440, hm⟩ := gx_bind hm
        refine W_val (elemP p1388 (s1422.toNat * 3)) w1426 (by kernel_rfl) (E_index (E := encSlot) _ _ _ x1386.length c1389 .i64 s1422 3 (y := y1440) rfl (by kernel_rfl) (by kernel_rfl) (by kernel_rfl) (h1390.mem0 M1427) rfl hy1440) ?_
        refine W_val (elemP p1388 (s1422.toNat * 3 + 0)) w1426 (by kernel_rfl) (E_fieldE (E := encSlot) _ _ 0 (s1422.toNat * 3) 0 rfl (by kernel_rfl) (by kernel_rfl) (h1390.mem0 M1427) hy1440) ?_
        refine W_val (.int .i64 y1440.State) w1426 (by kernel_rfl) (E_loadE (E := encSlot) _ _ false 1 s1422 0 (s1422.toNat * 3 + 0) y1440 (.int .i64 y1440.State) rfl (by kernel_rfl) (by kernel_rfl) (by kernel_rfl) (h1390.mem0 M1427) hy1440 rfl) ?_
        refine W_run 2 [(0, .slice p1388 x1386.length c1389), (1, .int .i64 x1391), (5, .int .i64 s1422), (18, .bool (y1440.State != 0))] w1426 (by kernel_rfl) ?_
        rcases gx_bif hm with ⟨hc1441, hm⟩ | ⟨hc1441, hm⟩
        · refine W_known 18 true (by kernel_rfl) hc1441 ?_
          refine W_run 2 [(0, .slice p1388 x1386.length c1389), (1, .int .i64 x1391), (5, .int .i64 s1422), (18, .bool true), (19, .slice p1388 x1386.length c1389), (20, .int .i64 s1422)] w1426 (by kernel_rfl) ?_
          obtain ⟨y1442, hy1442, hm⟩ := gx_bind hm
          refine W_val (elemP p1388 (s1422.toNat * 3)) w1426 (by kernel_rfl) (E_index (E := encSlot) _ _ _ x1386.length c1389 .i64 s1422 3 (y := y1442) rfl (by kernel_rfl) (by kernel_rfl) (by kernel_rfl) (h1390.mem0 M1427) rfl hy1442) ?_
          refine W_val (elemP p1388 (s1422.toNat * 3 + 1)) w1426 (by kernel_rfl) (E_fieldE (E := encSlot) _ _ 1 (s1422.toNat * 3) 1 rfl (by kernel_rfl) (by kernel_rfl) (h1390.mem0 M1427) hy1442) ?_
          refine W_val (.int .i64 y1442.Irq) w1426 (by kernel_rfl) (E_loadE (E := encSlot) _ _ false 1 s1422 1 (s1422.toNat * 3 + 1) y1442 (.int .i64 y1442.Irq) rfl (by kernel_rfl) (by kernel_rfl) (by kernel_rfl) (h1390.mem0 M1427) hy1442 rfl) ?_
          refine W_run 3 [(0, .slice p1388 x1386.length c1389), (1, .int .i64 x1391), (5, .int .i64 s1422), (26, .bool (y1442.Irq == x1391))] w1426 (by kernel_rfl) ?_
          refine W_nil ?_
          obtain rfl := Option.some.inj hm
          exact N_meet fun a ha => ⟨M1427.pick [] (by kernel_rfl), ha.sub (by kernel_rfl)⟩
        · refine W_known 18 false (by kernel_rfl) hc1441 ?_
          refine W_run 8 [(0, .slice p1388 x1386.length c1389), (1, .int .i64 x1391), (5, .int .i64 s1422), (26, .bool false)] w1426 (by kernel_rfl) ?_
          refine W_nil ?_
          obtain rfl := Option.some.inj hm
          exact N_meet fun a ha => ⟨M1427.pick [] (by kernel_rfl), ha.sub (by kernel_rfl)⟩
      · intro a1445 w1443 ⟨M1444, hS1446⟩
        refine N_use hS1446 ?_
        have hm := hm1439
        refine N_then ?_
        rcases gx_bif hm with ⟨hc1447, hm⟩ | ⟨hc1447, hm⟩
        · refine G_cond_t (b := o1437) hc1447 (by kernel_rfl) ?_
          refine G_seq ?_
          refine G_region ?_
          refine W_run 2 [(4, .int .i64 s1422)] w1443 (by kernel_rfl) ?_
          refine W_nil ?_
          refine N_then ?_
          refine G_ret ?_
          refine N_block_ret ?_
          refine N_then_ret ?_
          refine N_then_ret ?_
          obtain rfl := Option.some.inj hm
          obtain rfl := hout1424 _ rfl
          have hm := hmo1431; simp only [Sum.elim_inr] at hm
          refine N_block_ret ?_
          refine N_meet_ret ?_
          refine N_then_ret ?_
          obtain rfl := Option.some.inj hm
          refine N_ret [.int .i64 s1422] (RVs_cons (RV_tmp (by kernel_rfl)) RVs_nil) ?_
          exact ⟨rfl, M1444.pick [] (by kernel_rfl)⟩
        · refine G_cond_f (b := o1437) hc1447 (by kernel_rfl) ?_
          refine G_skip ?_
          refine N_block ?_
          refine N_then ?_
          refine G_region ?_
          refine W_run 3 [(0, .slice p1388 x1386.length c1389), (1, .int .i64 x1391), (5, .int .i64 (w64 (s1422 + 1)))] w1443 (by kernel_rfl) ?_
          refine W_nil ?_
          obtain rfl := Option.some.inj hm
          exact N_loop fun a ha => ⟨_, rfl, M1444.pick [] (by kernel_rfl), ha.sub (by kernel_rfl)⟩
    · refine G_cond_f (b := (decide (s1422 < (x1386.length : Int)))) hc1433 (by kernel_rfl) ?_
      refine G_exit ?_
      refine N_then_exit ?_
      refine N_then_exit ?_
      refine N_block_eq ?_
      obtain rfl := Option.some.inj hm
      obtain rfl := hout1424 _ rfl
      exact N_meet fun a ha => ⟨_, rfl, M1427.pick [] (by kernel_rfl), ha.sub (by kernel_rfl)⟩
  · intro a1448 w1449 ⟨o1432, hout_, M1450, hS1451⟩
    refine N_use hS1451 ?_
    subst hout_
    have hm := hmo1431; simp only [Sum.elim_inl] at hm
    refine N_then ?_
    refine G_seq ?_
    refine G_region ?_
    refine W_run 1 [(4, .int .i64 (-1))] w1449 (by kernel_rfl) ?_
    refine W_nil ?_
    refine N_then ?_
    refine G_ret ?_
    obtain rfl := Option.some.inj hm
    refine N_ret [.int .i64 (-1)] (RVs_cons (RV_tmp (by kernel_rfl)) RVs_nil) ?_
    exact ⟨rfl, M1450.pick [] (by kernel_rfl)⟩
theorem c_s_l8Less (w : World) (x1481 : Int) (x1482 : Int) (x1483 : Int) (x1484 : Int) {r : Bool} (hm : M.s_l8Less x1481 x1482 x1483 x1484 = some r) :
    Calls Tryz.prog 171 #[.int .i64 x1481, .int .i64 x1482, .int .i64 x1483, .int .i64 x1484] w fun e w' => e = .returned (.bool r) ∧ Mem [] w w' [] := by
  unfold M.s_l8Less at hm
  refine C_enter Tryz.func171 rfl (by kernel_rfl) ?_
  have M0 := Mem.refl [] w
  refine G_seq ?_
  refine G_region ?_
  refine W_run 1 [(0, .int .i64 x1481), (1, .int .i64 x1482), (2, .int .i64 x1483), (3, .int .i64 x1484)] w (by kernel_rfl) ?_
  refine W_nil ?_
  refine N_then ?_
  refine G_seq ?_
  obtain ⟨o1487, ho1488, hm1489⟩ := gx_bind hm
  refine G_meet (fun a w' => Mem [] w w' [] ∧ Sat Tryz.f171.ntmps [(8, .bool o1487)] a) ?_ ?_
  · have hm := ho1488
    refine G_region ?_
    refine W_run 4 [(0, .int .i64 x1481), (1, .int .i64 x1482), (2, .int .i64 x1483), (3, .int .i64 x1484), (12, .bool (decide (x1481 < x1483)))] w (by kernel_rfl) ?_
    rcases gx_bif hm with ⟨hc1490, hm⟩ | ⟨hc1490, hm⟩
    · refine W_known 12 true (by kernel_rfl) hc1490 ?_
      refine W_run 10 [(8, .bool true)] w (by kernel_rfl) ?_
      refine W_nil ?_
      obtain rfl := Option.some.inj hm
      exact N_meet fun a ha => ⟨M0.pick [] (by kernel_rfl), ha.sub (by kernel_rfl)⟩
    · refine W_known 12 false (by kernel_rfl) hc1490 ?_
      refine W_run 4 [(1, .int .i64 x1482), (3, .int .i64 x1484), (12, .bool false), (16, .bool (x1481 == x1483))] w (by kernel_rfl) ?_
      rcases gx_bif hm with ⟨hc1491, hm⟩ | ⟨hc1491, hm⟩
      · refine W_known 16 true (by kernel_rfl) hc1491 ?_
        refine W_run 6 [(8, .bool (decide (x1482 < x1484)))] w (by kernel_rfl) ?_
        refine W_nil ?_
        obtain rfl := Option.some.inj hm
        exact N_meet fun a ha => ⟨M0.pick [] (by kernel_rfl), ha.sub (by kernel_rfl)⟩
      · refine W_known 16 false (by kernel_rfl) hc1491 ?_
        refine W_run 6 [(8, .bool false)] w (by kernel_rfl) ?_
        refine W_nil ?_
        obtain rfl := Option.some.inj hm
        exact N_meet fun a ha => ⟨M0.pick [] (by kernel_rfl), ha.sub (by kernel_rfl)⟩
  · intro a1494 w1492 ⟨M1493, hS1495⟩
    refine N_use hS1495 ?_
    have hm := hm1489
    refine N_then ?_
    refine G_ret ?_
    obtain rfl := Option.some.inj hm
    refine N_ret [.bool o1487] (RVs_cons (RV_tmp (by kernel_rfl)) RVs_nil) ?_
    exact ⟨rfl, M1493.pick [] (by kernel_rfl)⟩
theorem c_s_l8Good (w : World) (x1794 : List Slot) (p1796 : Option Addr) (c1797 : Nat) (h1798 : rdS encSlot w x1794 p1796 c1797) {r : Bool} (hm : M.s_l8Good x1794 = some r) :
    Calls Tryz.prog 234 #[.slice p1796 x1794.length c1797] w fun e w' => e = .returned (.bool r) ∧ Mem [] w w' [] := by
  unfold M.s_l8Good at hm
  refine C_enter Tryz.func234 rfl (by kernel_rfl) ?_
  have M0 := Mem.refl [] w
  refine G_seq ?_
  refine G_region ?_
  refine W_run 1 [(0, .slice p1796 x1794.length c1797)] w (by kernel_rfl) ?_
  refine W_nil ?_
  refine N_then ?_
  refine G_seq ?_
  refine G_seq ?_
  refine G_region ?_
  refine W_run 1 [(0, .slice p1796 x1794.length c1797), (3, .int .i64 0)] w (by kernel_rfl) ?_
  refine W_nil ?_
  refine N_then ?_
  obtain ⟨out1962, hw1963, hmo1964⟩ := gx_bind hm
  refine G_meet (fun a w' => ∃ (o1965 : Unit), out1962 = .inl o1965 ∧ Mem [] w w' [] ∧ Sat Tryz.f234.ntmps [(0, .slice p1796 x1794.length c1797)] a) ?_ ?_
  · refine G_block ?_
    refine G_while (σ := Int) (ρ := (Unit) ⊕ (Bool)) (fun s1955 a w' => Mem [] w w' [] ∧ Sat Tryz.f234.ntmps [(0, .slice p1796 x1794.length c1797), (3, .int .i64 s1955)] a) hw1963 (fun a ha => ⟨M0.pick [] (by kernel_rfl), ha.sub (by kernel_rfl)⟩) ?_
    clear hm
    intro s1955 x1956 hm hout1957 a1958 w1959 ⟨M1960, hS1961⟩
    refine G_use hS1961 ?_
    refine G_seq ?_
    refine G_seq ?_
    refine G_region ?_
    refine W_run 4 [(0, .slice p1796 x1794.length c1797), (3, .int .i64 s1955), (8, .bool (decide (s1955 < (x1794.length : Int))))] w1959 (by kernel_rfl) ?_
    refine W_nil ?_
    refine N_then ?_
    rcases gx_bif hm with ⟨hc1966, hm⟩ | ⟨hc1966, hm⟩
    · refine G_cond_t (b := (decide (s1955 < (x1794.length : Int)))) hc1966 (by kernel_rfl) ?_
      refine G_skip ?_
      refine N_then ?_
      refine G_seq ?_
      refine G_block ?_
      refine G_seq ?_
      refine G_region ?_
      refine W_run 2 [(0, .slice p1796 x1794.length c1797), (3, .int .i64 s1955), (11, .slice p1796 x1794.length c1797), (12, .int .i64 s1955)] w1959 (by kernel_rfl) ?_
      obtain ⟨y1967, hy1967, hm⟩ := gx_bind hm
      refine W_val (elemP p1796 (s1955.toNat * 3)) w1959 (by kernel_rfl) (E_index (E := encSlot) _ _ _ x1794.length c1797 .i64 s1955 3 (y := y1967) rfl (by kernel_rfl) (by kernel_rfl) (by kernel_rfl) (h1798.mem0 M1960) rfl hy1967) ?_
      refine W_val (.agg #[.int .i64 y1967.State, .int .i64 y1967.Irq, .int .i64 y1967.Priority]) w1959 (by kernel_rfl) (E_loadE (E := encSlot) _ _ true 3 s1955 0 (s1955.toNat * 3) y1967 (.agg #[.int .i64 y1967.State, .int .i64 y1967.Irq, .int .i64 y1967.Priority]) rfl (by kernel_rfl) (by kernel_rfl) (by kernel_rfl) (h1798.mem0 M1960) hy1967 rfl) ?_
      refine W_new (fun b => .pointer (some ⟨b, 0, none⟩)) (.cells ⟨[.int .i64 0, .int .i64 0, .int .i64 0]⟩ 117 (0, 0)) M1960 rfl (by kernel_rfl) (by kernel_rfl) ?_
      intro b1969 w1970 M1971
      refine W_store _ _ _ true 3 b1969 0 [.int .i64 0, .int .i64 0, .int .i64 0] 117 (.agg #[.int .i64 y1967.State, .int .i64 y1967.Irq, .int .i64 y1967.Priority]) 0 [.int .i64 y1967.State, .int .i64 y1967.Irq, .int .i64 y1967.Priority] M1971 (by kernel_rfl) rfl (by kernel_rfl) (by kernel_rfl) (by kernel_rfl) (by kernel_rfl) (by kernel_rfl) (by kernel_rfl) (by kernel_rfl) (by kernel_rfl) ?_
      intro w1972 M1973
      refine W_nil ?_
      refine N_then ?_
      refine G_seq ?_
      refine G_seq ?_
      obtain ⟨o1988, ho1989, hm1990⟩ := gx_bind hm
      refine G_meet (fun a w' => Mem [] w w' [[(b1969, .cells ⟨[.int .i64 y1967.State, .int .i64 y1967.Irq, .int .i64 y1967.Priority]⟩ 117 (0, 0))]] ∧ Sat Tryz.f234.ntmps [(0, .slice p1796 x1794.length c1797), (3, .int .i64 s1955), (4, .pointer (some ⟨b1969, 0, none⟩)), (30, .bool o1988)] a) ?_ ?_
      · have hm := ho1989
        refine G_region ?_
        refine W_run 1 [(0, .slice p1796 x1794.length c1797), (3, .int .i64 s1955), (4, .pointer (some ⟨b1969, 0, none⟩)), (15, .pointer (some ⟨b1969, 0, none⟩))] w1972 (by kernel_rfl) ?_
        refine W_val (.int .i64 y1967.State) w1972 (by kernel_rfl) (E_load (e := 117) (fr := (0, 0)) _ _ false 1 b1969 0 [.int .i64 y1967.State, .int .i64 y1967.Irq, .int .i64 y1967.Priority] (.int .i64 y1967.State) rfl (by kernel_rfl) (by kernel_rfl) (by kernel_rfl) (M1973.blk 0 (b := b1969) (o := .cells ⟨[.int .i64 y1967.State, .int .i64 y1967.Irq, .int .i64 y1967.Priority]⟩ 117 (0, 0)) (by kernel_rfl))) ?_
        obtain ⟨r1991, hr1991, hm⟩ := gx_bind hm
        refine W_call 124 #[.int .i64 y1967.State, .int .i64 0, .int .i64 3] (by kernel_rfl) (by kernel_rfl) ?_
        refine (c_s_l1In w1972 y1967.State 0 3 hr1991).mono ?_
        rintro e_ w1992 ⟨rfl, K1993⟩
        have M1994 := M1973.call0 K1993
        refine ⟨_, rfl, ?_⟩
        refine W_run 2 [(0, .slice p1796 x1794.length c1797), (3, .int .i64 s1955), (4, .pointer (some ⟨b1969, 0, none⟩)), (19, .bool (!r1991))] w1992 (by kernel_rfl) ?_
        rcases gx_bif hm with ⟨hc1995, hm⟩ | ⟨hc1995, hm⟩
        · refine W_known 19 true (by kernel_rfl) hc1995 ?_
          refine W_run 11 [(0, .slice p1796 x1794.length c1797), (3, .int .i64 s1955), (4, .pointer (some ⟨b1969, 0, none⟩)), (30, .bool true)] w1992 (by kernel_rfl) ?_
          refine W_nil ?_
          obtain rfl := Option.some.inj hm
          exact N_meet fun a ha => ⟨M1994.pick [0] (by kernel_rfl), ha.sub (by kernel_rfl)⟩
        · refine W_known 19 false (by kernel_rfl) hc1995 ?_
          refine W_run 1 [(0, .slice p1796 x1794.length c1797), (3, .int .i64 s1955), (4, .pointer (some ⟨b1969, 0, none⟩)), (19, .bool false), (20, .pointer (some ⟨b1969, 1, none⟩))] w1992 (by kernel_rfl) ?_
          refine W_val (.int .i64 y1967.Irq) w1992 (by kernel_rfl) (E_load (e := 117) (fr := (0, 0)) _ _ false 1 b1969 1 [.int .i64 y1967.State, .int .i64 y1967.Irq, .int .i64 y1967.Priority] (.int .i64 y1967.Irq) rfl (by kernel_rfl) (by kernel_rfl) (by kernel_rfl) (M1994.blk 0 (b := b1969) (o := .cells ⟨[.int .i64 y1967.State, .int .i64 y1967.Irq, .int .i64 y1967.Priority]⟩ 117 (0, 0)) (by kernel_rfl))) ?_
          obtain ⟨r1996, hr1996, hm⟩ := gx_bind hm
          refine W_call 143 #[.int .i64 y1967.Irq] (by kernel_rfl) (by kernel_rfl) ?_
          refine (c_s_l6Irq w1992 y1967.Irq hr1996).mono ?_
          rintro e_ w1997 ⟨rfl, K1998⟩
          have M1999 := M1994.call0 K1998
          refine ⟨_, rfl, ?_⟩
          refine W_run 3 [(0, .slice p1796 x1794.length c1797), (3, .int .i64 s1955), (4, .pointer (some ⟨b1969, 0, none⟩)), (25, .bool (!r1996))] w1997 (by kernel_rfl) ?_
          rcases gx_bif hm with ⟨hc2000, hm⟩ | ⟨hc2000, hm⟩
          · refine W_known 25 true (by kernel_rfl) hc2000 ?_
            refine W_run 5 [(0, .slice p1796 x1794.length c1797), (3, .int .i64 s1955), (4, .pointer (some ⟨b1969, 0, none⟩)), (30, .bool true)] w1997 (by kernel_rfl) ?_
            refine W_nil ?_
            obtain rfl := Option.some.inj hm
            exact N_meet fun a ha => ⟨M1999.pick [0] (by kernel_rfl), ha.sub (by kernel_rfl)⟩
          · refine W_known 25 false (by kernel_rfl) hc2000 ?_
            refine W_run 1 [(0, .slice p1796 x1794.length c1797), (3, .int .i64 s1955), (4, .pointer (some ⟨b1969, 0, none⟩)), (25, .bool false), (26, .pointer (some ⟨b1969, 2, none⟩))] w1997 (by kernel_rfl) ?_
            refine W_val (.int .i64 y1967.Priority) w1997 (by kernel_rfl) (E_load (e := 117) (fr := (0, 0)) _ _ false 1 b1969 2 [.int .i64 y1967.State, .int .i64 y1967.Irq, .int .i64 y1967.Priority] (.int .i64 y1967.Priority) rfl (by kernel_rfl) (by kernel_rfl) (by kernel_rfl) (M1999.blk 0 (b := b1969) (o := .cells ⟨[.int .i64 y1967.State, .int .i64 y1967.Irq, .int .i64 y1967.Priority]⟩ 117 (0, 0)) (by kernel_rfl))) ?_
            obtain ⟨r2001, hr2001, hm⟩ := gx_bind hm
            refine W_call 150 #[.int .i64 y1967.Priority] (by kernel_rfl) (by kernel_rfl) ?_
            refine (c_s_l6Prio w1997 y1967.Priority hr2001).mono ?_
            rintro e_ w2002 ⟨rfl, K2003⟩
            have M2004 := M1999.call0 K2003
            refine ⟨_, rfl, ?_⟩
            refine W_run 2 [(0, .slice p1796 x1794.length c1797), (3, .int .i64 s1955), (4, .pointer (some ⟨b1969, 0, none⟩)), (30, .bool (!r2001))] w2002 (by kernel_rfl) ?_
            refine W_nil ?_
            obtain rfl := Option.some.inj hm
            exact N_meet fun a ha => ⟨M2004.pick [0] (by kernel_rfl), ha.sub (by kernel_rfl)⟩
      · intro a2007 w2005 ⟨M2006, hS2008⟩
        refine N_use hS2008 ?_
        have hm := hm1990
        refine N_then ?_
        rcases gx_bif hm with ⟨hc2009, hm⟩ | ⟨hc2009, hm⟩
        · refine G_cond_t (b := o1988) hc2009 (by kernel_rfl) ?_
          refine G_seq ?_
          refine G_region ?_
          refine W_run 1 [(2, .bool false)] w2005 (by kernel_rfl) ?_
          refine W_nil ?_
          refine N_then ?_
          refine G_ret ?_
          refine N_then_ret ?_
          refine N_block_ret ?_
          refine N_then_ret ?_
          refine N_then_ret ?_
          obtain rfl := Option.some.inj hm
          obtain rfl := hout1957 _ rfl
          have hm := hmo1964; simp only [Sum.elim_inr] at hm
          refine N_block_ret ?_
          refine N_meet_ret ?_
          refine N_then_ret ?_
          obtain rfl := Option.some.inj hm
          refine N_ret [.bool false] (RVs_cons (RV_tmp (by kernel_rfl)) RVs_nil) ?_
          exact ⟨rfl, M2006.pick [] (by kernel_rfl)⟩
        · refine G_cond_f (b := o1988) hc2009 (by kernel_rfl) ?_
          refine G_skip ?_
          refine N_then ?_
          refine G_seq ?_
          obtain ⟨o2023, ho2024, hm2025⟩ := gx_bind hm
          refine G_meet (fun a w' => Mem [] w w' [] ∧ Sat Tryz.f234.ntmps [(0, .slice p1796 x1794.length c1797), (3, .int .i64 s1955), (56, .bool o2023)] a) ?_ ?_
          · have hm := ho2024
            refine G_region ?_
            refine W_run 1 [(0, .slice p1796 x1794.length c1797), (3, .int .i64 s1955), (4, .pointer (some ⟨b1969, 0, none⟩)), (31, .pointer (some ⟨b1969, 0, none⟩))] w2005 (by kernel_rfl) ?_
            refine W_val (.int .i64 y1967.State) w2005 (by kernel_rfl) (E_load (e := 117) (fr := (0, 0)) _ _ false 1 b1969 0 [.int .i64 y1967.State, .int .i64 y1967.Irq, .int .i64 y1967.Priority] (.int .i64 y1967.State) rfl (by kernel_rfl) (by kernel_rfl) (by kernel_rfl) (M2006.blk 0 (b := b1969) (o := .cells ⟨[.int .i64 y1967.State, .int .i64 y1967.Irq, .int .i64 y1967.Priority]⟩ 117 (0, 0)) (by kernel_rfl))) ?_
            refine W_run 2 [(0, .slice p1796 x1794.length c1797), (3, .int .i64 s1955), (4, .pointer (some ⟨b1969, 0, none⟩)), (34, .bool (y1967.State == 0))] w2005 (by kernel_rfl) ?_
            rcases gx_bif hm with ⟨hc2026, hm⟩ | ⟨hc2026, hm⟩
            · refine W_known 34 true (by kernel_rfl) hc2026 ?_
              refine W_run 1 [(0, .slice p1796 x1794.length c1797), (3, .int .i64 s1955), (4, .pointer (some ⟨b1969, 0, none⟩)), (34, .bool true), (35, .pointer (some ⟨b1969, 1, none⟩))] w2005 (by kernel_rfl) ?_
              refine W_val (.int .i64 y1967.Irq) w2005 (by kernel_rfl) (E_load (e := 117) (fr := (0, 0)) _ _ false 1 b1969 1 [.int .i64 y1967.State, .int .i64 y1967.Irq, .int .i64 y1967.Priority] (.int .i64 y1967.Irq) rfl (by kernel_rfl) (by kernel_rfl) (by kernel_rfl) (M2006.blk 0 (b := b1969) (o := .cells ⟨[.int .i64 y1967.State, .int .i64 y1967.Irq, .int .i64 y1967.Priority]⟩ 117 (0, 0)) (by kernel_rfl))) ?_
              refine W_run 2 [(0, .slice p1796 x1794.length c1797), (3, .int .i64 s1955), (4, .pointer (some ⟨b1969, 0, none⟩)), (34, .bool true), (38, .bool (y1967.Irq != 0))] w2005 (by kernel_rfl) ?_
              rcases gx_bif hm with ⟨hc2027, hm⟩ | ⟨hc2027, hm⟩
              · refine W_known 38 true (by kernel_rfl) hc2027 ?_
                refine W_run 18 [(0, .slice p1796 x1794.length c1797), (3, .int .i64 s1955), (56, .bool true)] w2005 (by kernel_rfl) ?_
                refine W_nil ?_
                obtain rfl := Option.some.inj hm
                exact N_meet fun a ha => ⟨M2006.pick [] (by kernel_rfl), ha.sub (by kernel_rfl)⟩
              · refine W_known 38 false (by kernel_rfl) hc2027 ?_
                refine W_run 1 [(0, .slice p1796 x1794.length c1797), (3, .int .i64 s1955), (4, .pointer (some ⟨b1969, 0, none⟩)), (34, .bool true), (38, .bool false), (39, .pointer (some ⟨b1969, 2, none⟩))] w2005 (by kernel_rfl) ?_
                refine W_val (.int .i64 y1967.Priority) w2005 (by kernel_rfl) (E_load (e := 117) (fr := (0, 0)) _ _ false 1 b1969 2 [.int .i64 y1967.State, .int .i64 y1967.Irq, .int .i64 y1967.Priority] (.int .i64 y1967.Priority) rfl (by kernel_rfl) (by kernel_rfl) (by kernel_rfl) (M2006.blk 0 (b := b1969) (o := .cells ⟨[.int .i64 y1967.State, .int .i64 y1967.Irq, .int .i64 y1967.Priority]⟩ 117 (0, 0)) (by kernel_rfl))) ?_
                refine W_run 4 [(0, .slice p1796 x1794.length c1797), (3, .int .i64 s1955), (4, .pointer (some ⟨b1969, 0, none⟩)), (44, .bool (y1967.Priority != 0))] w2005 (by kernel_rfl) ?_
                rcases gx_bif hm with ⟨hc2028, hm⟩ | ⟨hc2028, hm⟩
                · refine W_known 44 true (by kernel_rfl) hc2028 ?_
                  refine W_run 12 [(0, .slice p1796 x1794.length c1797), (3, .int .i64 s1955), (56, .bool true)] w2005 (by kernel_rfl) ?_
                  refine W_nil ?_
                  obtain rfl := Option.some.inj hm
                  exact N_meet fun a ha => ⟨M2006.pick [] (by kernel_rfl), ha.sub (by kernel_rfl)⟩
                · refine W_known 44 false (by kernel_rfl) hc2028 ?_
                  refine W_run 1 [(0, .slice p1796 x1794.length c1797), (3, .int .i64 s1955), (4, .pointer (some ⟨b1969, 0, none⟩)), (44, .bool false), (45, .pointer (some ⟨b1969, 0, none⟩))] w2005 (by kernel_rfl) ?_
                  refine W_val (.int .i64 y1967.State) w2005 (by kernel_rfl) (E_load (e := 117) (fr := (0, 0)) _ _ false 1 b1969 0 [.int .i64 y1967.State, .int .i64 y1967.Irq, .int .i64 y1967.Priority] (.int .i64 y1967.State) rfl (by kernel_rfl) (by kernel_rfl) (by kernel_rfl) (M2006.blk 0 (b := b1969) (o := .cells ⟨[.int .i64 y1967.State, .int .i64 y1967.Irq, .int .i64 y1967.Priority]⟩ 117 (0, 0)) (by kernel_rfl))) ?_
                  refine W_run 2 [(0, .slice p1796 x1794.length c1797), (3, .int .i64 s1955), (4, .pointer (some ⟨b1969, 0, none⟩)), (44, .bool false), (48, .bool (y1967.State != 0))] w2005 (by kernel_rfl) ?_
                  rcases gx_bif hm with ⟨hc2029, hm⟩ | ⟨hc2029, hm⟩
                  · refine W_known 48 true (by kernel_rfl) hc2029 ?_
                    refine W_run 2 [(0, .slice p1796 x1794.length c1797), (3, .int .i64 s1955), (44, .bool false), (48, .bool true), (49, .slice p1796 x1794.length c1797), (50, .pointer (some ⟨b1969, 1, none⟩))] w2005 (by kernel_rfl) ?_
                    refine W_val (.int .i64 y1967.Irq) w2005 (by kernel_rfl) (E_load (e := 117) (fr := (0, 0)) _ _ false 1 b1969 1 [.int .i64 y1967.State, .int .i64 y1967.Irq, .int .i64 y1967.Priority] (.int .i64 y1967.Irq) rfl (by kernel_rfl) (by kernel_rfl) (by kernel_rfl) (M2006.blk 0 (b := b1969) (o := .cells ⟨[.int .i64 y1967.State, .int .i64 y1967.Irq, .int .i64 y1967.Priority]⟩ 117 (0, 0)) (by kernel_rfl))) ?_
                    obtain ⟨r2030, hr2030, hm⟩ := gx_bind hm
                    refine W_call 192 #[.slice p1796 x1794.length c1797, .int .i64 y1967.Irq] (by kernel_rfl) (by kernel_rfl) ?_
                    refine (c_s_l8Find w2005 x1794 p1796 c1797 (h1798.mem0 M2006) y1967.Irq hr2030).mono ?_
                    rintro e_ w2031 ⟨rfl, K2032⟩
                    have M2033 := M2006.call0 K2032
                    refine ⟨_, rfl, ?_⟩
                    refine W_run 4 [(0, .slice p1796 x1794.length c1797), (3, .int .i64 s1955), (56, .bool (r2030 != s1955))] w2031 (by kernel_rfl) ?_
                    refine W_nil ?_
                    obtain rfl := Option.some.inj hm
                    exact N_meet fun a ha => ⟨M2033.pick [] (by kernel_rfl), ha.sub (by kernel_rfl)⟩
                  · refine W_known 48 false (by kernel_rfl) hc2029 ?_
                    refine W_run 8 [(0, .slice p1796 x1794.length c1797), (3, .int .i64 s1955), (56, .bool false)] w2005 (by kernel_rfl) ?_
                    refine W_nil ?_
                    obtain rfl := Option.some.inj hm
                    exact N_meet fun a ha => ⟨M2006.pick [] (by kernel_rfl), ha.sub (by kernel_rfl)⟩
            · refine W_known 34 false (by kernel_rfl) hc2026 ?_
              refine W_run 11 [(0, .slice p1796 x1794.length c1797), (3, .int .i64 s1955), (4, .pointer (some ⟨b1969, 0, none⟩)), (44, .bool false), (45, .pointer (some ⟨b1969, 0, none⟩))] w2005 (by kernel_rfl) ?_
              refine W_val (.int .i64 y1967.State) w2005 (by kernel_rfl) (E_load (e := 117) (fr := (0, 0)) _ _ false 1 b1969 0 [.int .i64 y1967.State, .int .i64 y1967.Irq, .int .i64 y1967.Priority] (.int .i64 y1967.State) rfl (by kernel_rfl) (by kernel_rfl) (by kernel_rfl) (M2006.blk 0 (b := b1969) (o := .cells ⟨[.int .i64 y1967.State, .int .i64 y1967.Irq, .int .i64 y1967.Priority]⟩ 117 (0, 0)) (by kernel_rfl))) ?_
              refine W_run 2 [(0, .slice p1796 x1794.length c1797), (3, .int .i64 s1955), (4, .pointer (some ⟨b1969, 0, none⟩)), (44, .bool false), (48, .bool (y1967.State != 0))] w2005 (by kernel_rfl) ?_
              rcases gx_bif hm with ⟨hc2034, hm⟩ | ⟨hc2034, hm⟩
              · refine W_known 48 true (by kernel_rfl) hc2034 ?_
                refine W_run 2 [(0, .slice p1796 x1794.length c1797), (3, .int .i64 s1955), (44, .bool false), (48, .bool true), (49, .slice p1796 x1794.length c1797), (50, .pointer (some ⟨b1969, 1, none⟩))] w2005 (by kernel_rfl) ?_
                refine W_val (.int .i64 y1967.Irq) w2005 (by kernel_rfl) (E_load (e := 117) (fr := (0, 0)) _ _ false 1 b1969 1 [.int .i64 y1967.State, .int .i64 y1967.Irq, .int .i64 y1967.Priority] (.int .i64 y1967.Irq) rfl (by kernel_rfl) (by kernel_rfl) (by kernel_rfl) (M2006.blk 0 (b := b1969) (o := .cells ⟨[.int .i64 y1967.State, .int .i64 y1967.Irq, .int .i64 y1967.Priority]⟩ 117 (0, 0)) (by kernel_rfl))) ?_
                obtain ⟨r2035, hr2035, hm⟩ := gx_bind hm
                refine W_call 192 #[.slice p1796 x1794.length c1797, .int .i64 y1967.Irq] (by kernel_rfl) (by kernel_rfl) ?_
                refine (c_s_l8Find w2005 x1794 p1796 c1797 (h1798.mem0 M2006) y1967.Irq hr2035).mono ?_
                rintro e_ w2036 ⟨rfl, K2037⟩
                have M2038 := M2006.call0 K2037
                refine ⟨_, rfl, ?_⟩
                refine W_run 4 [(0, .slice p1796 x1794.length c1797), (3, .int .i64 s1955), (56, .bool (r2035 != s1955))] w2036 (by kernel_rfl) ?_
                refine W_nil ?_
                obtain rfl := Option.some.inj hm
                exact N_meet fun a ha => ⟨M2038.pick [] (by kernel_rfl), ha.sub (by kernel_rfl)⟩
              · refine W_known 48 false (by kernel_rfl) hc2034 ?_
                refine W_run 8 [(0, .slice p1796 x1794.length c1797), (3, .int .i64 s1955), (56, .bool false)] w2005 (by kernel_rfl) ?_
                refine W_nil ?_
                obtain rfl := Option.some.inj hm
                exact N_meet fun a ha => ⟨M2006.pick [] (by kernel_rfl), ha.sub (by kernel_rfl)⟩
          · intro a2041 w2039 ⟨M2040, hS2042⟩
            refine N_use hS2042 ?_
            have hm := hm2025
            refine N_then ?_
            rcases gx_bif hm with ⟨hc2043, hm⟩ | ⟨hc2043, hm⟩
            · refine G_cond_t (b := o2023) hc2043 (by kernel_rfl) ?_
              refine G_seq ?_
              refine G_region ?_
              refine W_run 1 [(2, .bool false)] w2039 (by kernel_rfl) ?_
              refine W_nil ?_
              refine N_then ?_
              refine G_ret ?_
              refine N_block_ret ?_
              refine N_then_ret ?_
              refine N_then_ret ?_
              obtain rfl := Option.some.inj hm
              obtain rfl := hout1957 _ rfl
              have hm := hmo1964; simp only [Sum.elim_inr] at hm
              refine N_block_ret ?_
              refine N_meet_ret ?_
              refine N_then_ret ?_
              obtain rfl := Option.some.inj hm
              refine N_ret [.bool false] (RVs_cons (RV_tmp (by kernel_rfl)) RVs_nil) ?_
              exact ⟨rfl, M2040.pick [] (by kernel_rfl)⟩
            · refine G_cond_f (b := o2023) hc2043 (by kernel_rfl) ?_
              refine G_skip ?_
              refine N_block ?_
              refine N_then ?_
              refine G_region ?_
              refine W_run 3 [(0, .slice p1796 x1794.length c1797), (3, .int .i64 (w64 (s1955 + 1)))] w2039 (by kernel_rfl) ?_
              refine W_nil ?_
              obtain rfl := Option.some.inj hm
              exact N_loop fun a ha => ⟨_, rfl, M2040.pick [] (by kernel_rfl), ha.sub (by kernel_rfl)⟩
    · refine G_cond_f (b := (decide (s1955 < (x1794.length : Int)))) hc1966 (by kernel_rfl) ?_
      refine G_exit ?_
      refine N_then_exit ?_
      refine N_then_exit ?_
      refine N_block_eq ?_
      obtain rfl := Option.some.inj hm
      obtain rfl := hout1957 _ rfl
      exact N_meet fun a ha => ⟨_, rfl, M1960.pick [] (by kernel_rfl), ha.sub (by kernel_rfl)⟩
  · intro a2044 w2045 ⟨o1965, hout_, M2046, hS2047⟩
    refine N_use hS2047 ?_
    subst hout_
    have hm := hmo1964; simp only [Sum.elim_inl] at hm
    refine N_then ?_
    refine G_seq ?_
    refine G_region ?_
    refine W_run 4 [(2, .bool ((x1794.length : Int) == 4))] w2045 (by kernel_rfl) ?_
    refine W_nil ?_
    refine N_then ?_
    refine G_ret ?_
    obtain rfl := Option.some.inj hm
    refine N_ret [.bool ((x1794.length : Int) == 4)] (RVs_cons (RV_tmp (by kernel_rfl)) RVs_nil) ?_
    exact ⟨rfl, M2046.pick [] (by kernel_rfl)⟩
theorem c_s_l9Waiting (w : World) (x1344 : List Slot) (p1346 : Option Addr) (c1347 : Nat) (h1348 : rdS encSlot w x1344 p1346 c1347) (x1349 : List Waiter) (p1351 : Option Addr) (c1352 : Nat) (h1353 : rdS encWaiter w x1349 p1351 c1352) {r : Bool} (hm : M.s_l9Waiting x1344 x1349 = some r) :
    Calls Tryz.prog 189 #[.slice p1346 x1344.length c1347, .slice p1351 x1349.length c1352] w fun e w' => e = .returned (.bool r) ∧ Mem [] w w' [] := by
  unfold M.s_l9Waiting at hm
  refine C_enter Tryz.func189 rfl (by kernel_rfl) ?_
  have M0 := Mem.refl [] w
  refine G_seq ?_
  refine G_region ?_
  refine W_run 1 [(0, .slice p1346 x1344.length c1347), (1, .slice p1351 x1349.length c1352)] w (by kernel_rfl) ?_
  refine W_nil ?_
  refine N_then ?_
  refine G_seq ?_
  refine G_seq ?_
  refine G_region ?_
  refine W_run 1 [(0, .slice p1346 x1344.length c1347), (1, .slice p1351 x1349.length c1352), (5, .int .i64 0)] w (by kernel_rfl) ?_
  refine W_nil ?_
  refine N_then ?_
  obtain ⟨out1673, hw1674, hmo1675⟩ := gx_bind hm
  refine G_meet (fun a w' => ∃ (o1676 : Unit), out1673 = .inl o1676 ∧ Mem [] w w' [] ∧ Sat Tryz.f189.ntmps [(0, .slice p1346 x1344.length c1347), (1, .slice p1351 x1349.length c1352)] a) ?_ ?_
  · refine G_block ?_
    refine G_while (σ := Int) (ρ := (Unit) ⊕ (Bool)) (fun s1666 a w' => Mem [] w w' [] ∧ Sat Tryz.f189.ntmps [(0, .slice p1346 x1344.length c1347), (1, .slice p1351 x1349.length c1352), (5, .int .i64 s1666)] a) hw1674 (fun a ha => ⟨M0.pick [] (by kernel_rfl), ha.sub (by kernel_rfl)⟩) ?_
    clear hm
    intro s1666 x1667 hm hout1668 a1669 w1670 ⟨M1671, hS1672⟩
    refine G_use hS1672 ?_
    refine G_seq ?_
    refine G_seq ?_
    obtain ⟨o1678, ho1679, hm1680⟩ := gx_bind hm
    refine G_meet (fun a w' => Mem [] w w' [] ∧ Sat Tryz.f189.ntmps [(0, .slice p1346 x1344.length c1347), (1, .slice p1351 x1349.length c1352), (5, .int .i64 s1666), (15, .bool o1678)] a) ?_ ?_
    · have hm := ho1679
      refine G_region ?_
      refine W_run 5 [(0, .slice p1346 x1344.length c1347), (1, .slice p1351 x1349.length c1352), (5, .int .i64 s1666), (12, .bool (decide (s1666 < (x1349.length : Int))))] w1670 (by kernel_rfl) ?_
      rcases gx_bif hm with ⟨hc1681, hm⟩ | ⟨hc1681, hm⟩
      · refine W_known 12 true (by kernel_rfl) hc1681 ?_
        refine W_run 3 [(0, .slice p1346 x1344.length c1347), (1, .slice p1351 x1349.length c1352), (5, .int .i64 s1666), (15, .bool (decide (s1666 ≤ 8)))] w1670 (by kernel_rfl) ?_
        refine W_nil ?_
        obtain rfl := Option.some.inj hm
        exact N_meet fun a ha => ⟨M1671.pick [] (by kernel_rfl), ha.sub (by kernel_rfl)⟩
      · refine W_known 12 false (by kernel_rfl) hc1681 ?_
        refine W_run 3 [(0, .slice p1346 x1344.length c1347), (1, .slice p1351 x1349.length c1352), (5, .int .i64 s1666), (15, .bool false)] w1670 (by kernel_rfl) ?_
        refine W_nil ?_
        obtain rfl := Option.some.inj hm
        exact N_meet fun a ha => ⟨M1671.pick [] (by kernel_rfl), ha.sub (by kernel_rfl)⟩
    · intro a1684 w1682 ⟨M1683, hS1685⟩
      refine N_use hS1685 ?_
      have hm := hm1680
      refine N_then ?_
      rcases gx_bif hm with ⟨hc1686, hm⟩ | ⟨hc1686, hm⟩
      · refine G_cond_t (b := o1678) hc1686 (by kernel_rfl) ?_
        refine G_skip ?_
        refine N_then ?_
        refine G_seq ?_
        refine G_block ?_
        refine G_seq ?_
        refine G_region ?_
        refine W_run 2 [(0, .slice p1346 x1344.length c1347), (1, .slice p1351 x1349.length c1352), (5, .int .i64 s1666), (18, .slice p1351 x1349.length c1352), (19, .int .i64 s1666)] w1682 (by kernel_rfl) ?_
        obtain ⟨y1687, hy1687, hm⟩ := gx_bind hm
        refine W_val (elemP p1351 (s1666.toNat * 2)) w1682 (by kernel_rfl) (E_index (E := encWaiter) _ _ _ x1349.length c1352 .i64 s1666 2 (y := y1687) rfl (by kernel_rfl) (by kernel_rfl) (by kernel_rfl) (h1353.mem0 M1683) rfl hy1687) ?_
        refine W_val (.agg #[.int .i64 y1687.Irq, .int .i64 y1687.Priority]) w1682 (by kernel_rfl) (E_loadE (E := encWaiter) _ _ true 2 s1666 0 (s1666.toNat * 2) y1687 (.agg #[.int .i64 y1687.Irq, .int .i64 y1687.Priority]) rfl (by kernel_rfl) (by kernel_rfl) (by kernel_rfl) (h1353.mem0 M1683) hy1687 rfl) ?_
        refine W_new (fun b => .pointer (some ⟨b, 0, none⟩)) (.cells ⟨[.int .i64 0, .int .i64 0]⟩ 142 (0, 0)) M1683 rfl (by kernel_rfl) (by kernel_rfl) ?_
        intro b1689 w1690 M1691
        refine W_store _ _ _ true 2 b1689 0 [.int .i64 0, .int .i64 0] 142 (.agg #[.int .i64 y1687.Irq, .int .i64 y1687.Priority]) 0 [.int .i64 y1687.Irq, .int .i64 y1687.Priority] M1691 (by kernel_rfl) rfl (by kernel_rfl) (by kernel_rfl) (by kernel_rfl) (by kernel_rfl) (by kernel_rfl) (by kernel_rfl) (by kernel_rfl) (by kernel_rfl) ?_
        intro w1692 M1693
        refine W_nil ?_
        refine N_then ?_
        refine G_seq ?_
        refine G_seq ?_
        obtain ⟨o1708, ho1709, hm1710⟩ := gx_bind hm
        refine G_meet (fun a w' => Mem [] w w' [[(b1689, .cells ⟨[.int .i64 y1687.Irq, .int .i64 y1687.Priority]⟩ 142 (0, 0))]] ∧ Sat Tryz.f189.ntmps [(0, .slice p1346 x1344.length c1347), (1, .slice p1351 x1349.length c1352), (5, .int .i64 s1666), (6, .pointer (some ⟨b1689, 0, none⟩)), (38, .bool o1708)] a) ?_ ?_
        · have hm := ho1709
          refine G_region ?_
          refine W_run 1 [(0, .slice p1346 x1344.length c1347), (1, .slice p1351 x1349.length c1352), (5, .int .i64 s1666), (6, .pointer (some ⟨b1689, 0, none⟩)), (22, .pointer (some ⟨b1689, 0, none⟩))] w1692 (by kernel_rfl) ?_
          refine W_val (.int .i64 y1687.Irq) w1692 (by kernel_rfl) (E_load (e := 142) (fr := (0, 0)) _ _ false 1 b1689 0 [.int .i64 y1687.Irq, .int .i64 y1687.Priority] (.int .i64 y1687.Irq) rfl (by kernel_rfl) (by kernel_rfl) (by kernel_rfl) (M1693.blk 0 (b := b1689) (o := .cells ⟨[.int .i64 y1687.Irq, .int .i64 y1687.Priority]⟩ 142 (0, 0)) (by kernel_rfl))) ?_
          obtain ⟨r1711, hr1711, hm⟩ := gx_bind hm
          refine W_call 143 #[.int .i64 y1687.Irq] (by kernel_rfl) (by kernel_rfl) ?_
          refine (c_s_l6Irq w1692 y1687.Irq hr1711).mono ?_
          rintro e_ w1712 ⟨rfl, K1713⟩
          have M1714 := M1693.call0 K1713
          refine ⟨_, rfl, ?_⟩
          refine W_run 2 [(0, .slice p1346 x1344.length c1347), (1, .slice p1351 x1349.length c1352), (5, .int .i64 s1666), (6, .pointer (some ⟨b1689, 0, none⟩)), (26, .bool (!r1711))] w1712 (by kernel_rfl) ?_
          rcases gx_bif hm with ⟨hc1715, hm⟩ | ⟨hc1715, hm⟩
          · refine W_known 26 true (by kernel_rfl) hc1715 ?_
            refine W_run 12 [(0, .slice p1346 x1344.length c1347), (1, .slice p1351 x1349.length c1352), (5, .int .i64 s1666), (6, .pointer (some ⟨b1689, 0, none⟩)), (38, .bool true)] w1712 (by kernel_rfl) ?_
            refine W_nil ?_
            obtain rfl := Option.some.inj hm
            exact N_meet fun a ha => ⟨M1714.pick [0] (by kernel_rfl), ha.sub (by kernel_rfl)⟩
          · refine W_known 26 false (by kernel_rfl) hc1715 ?_
            refine W_run 1 [(0, .slice p1346 x1344.length c1347), (1, .slice p1351 x1349.length c1352), (5, .int .i64 s1666), (6, .pointer (some ⟨b1689, 0, none⟩)), (26, .bool false), (27, .pointer (some ⟨b1689, 1, none⟩))] w1712 (by kernel_rfl) ?_
            refine W_val (.int .i64 y1687.Priority) w1712 (by kernel_rfl) (E_load (e := 142) (fr := (0, 0)) _ _ false 1 b1689 1 [.int .i64 y1687.Irq, .int .i64 y1687.Priority] (.int .i64 y1687.Priority) rfl (by kernel_rfl) (by kernel_rfl) (by kernel_rfl) (M1714.blk 0 (b := b1689) (o := .cells ⟨[.int .i64 y1687.Irq, .int .i64 y1687.Priority]⟩ 142 (0, 0)) (by kernel_rfl))) ?_
            obtain ⟨r1716, hr1716, hm⟩ := gx_bind hm
            refine W_call 150 #[.int .i64 y1687.Priority] (by kernel_rfl) (by kernel_rfl) ?_
            refine (c_s_l6Prio w1712 y1687.Priority hr1716).mono ?_
            rintro e_ w1717 ⟨rfl, K1718⟩
            have M1719 := M1714.call0 K1718
            refine ⟨_, rfl, ?_⟩
            refine W_run 3 [(0, .slice p1346 x1344.length c1347), (1, .slice p1351 x1349.length c1352), (5, .int .i64 s1666), (6, .pointer (some ⟨b1689, 0, none⟩)), (32, .bool (!r1716))] w1717 (by kernel_rfl) ?_
            rcases gx_bif hm with ⟨hc1720, hm⟩ | ⟨hc1720, hm⟩
            · refine W_known 32 true (by kernel_rfl) hc1720 ?_
              refine W_run 6 [(0, .slice p1346 x1344.length c1347), (1, .slice p1351 x1349.length c1352), (5, .int .i64 s1666), (6, .pointer (some ⟨b1689, 0, none⟩)), (38, .bool true)] w1717 (by kernel_rfl) ?_
              refine W_nil ?_
              obtain rfl := Option.some.inj hm
              exact N_meet fun a ha => ⟨M1719.pick [0] (by kernel_rfl), ha.sub (by kernel_rfl)⟩
            · refine W_known 32 false (by kernel_rfl) hc1720 ?_
              refine W_run 2 [(0, .slice p1346 x1344.length c1347), (1, .slice p1351 x1349.length c1352), (5, .int .i64 s1666), (6, .pointer (some ⟨b1689, 0, none⟩)), (32, .bool false), (33, .slice p1346 x1344.length c1347), (34, .pointer (some ⟨b1689, 0, none⟩))] w1717 (by kernel_rfl) ?_
              refine W_val (.int .i64 y1687.Irq) w1717 (by kernel_rfl) (E_load (e := 142) (fr := (0, 0)) _ _ false 1 b1689 0 [.int .i64 y1687.Irq, .int .i64 y1687.Priority] (.int .i64 y1687.Irq) rfl (by kernel_rfl) (by kernel_rfl) (by kernel_rfl) (M1719.blk 0 (b := b1689) (o := .cells ⟨[.int .i64 y1687.Irq, .int .i64 y1687.Priority]⟩ 142 (0, 0)) (by kernel_rfl))) ?_
              obtain ⟨r1721, hr1721, hm⟩ := gx_bind hm
              refine W_call 192 #[.slice p1346 x1344.length c1347, .int .i64 y1687.Irq] (by kernel_rfl) (by kernel_rfl) ?_
              refine (c_s_l8Find w1717 x1344 p1346 c1347 (h1348.mem0 M1719) y1687.Irq hr1721).mono ?_
              rintro e_ w1722 ⟨rfl, K1723⟩
              have M1724 := M1719.call0 K1723
              refine ⟨_, rfl, ?_⟩
              refine W_run 2 [(0, .slice p1346 x1344.length c1347), (1, .slice p1351 x1349.length c1352), (5, .int .i64 s1666), (6, .pointer (some ⟨b1689, 0, none⟩)), (38, .bool (decide (r1721 ≥ 0)))] w1722 (by kernel_rfl) ?_
              refine W_nil ?_
              obtain rfl := Option.some.inj hm
              exact N_meet fun a ha => ⟨M1724.pick [0] (by kernel_rfl), ha.sub (by kernel_rfl)⟩
        · intro a1727 w1725 ⟨M1726, hS1728⟩
          refine N_use hS1728 ?_
          have hm := hm1710
          refine N_then ?_
          rcases gx_bif hm with ⟨hc1729, hm⟩ | ⟨hc1729, hm⟩
          · refine G_cond_t (b := o1708) hc1729 (by kernel_rfl) ?_
            refine G_seq ?_
            refine G_region ?_
            refine W_run 1 [(4, .bool false)] w1725 (by kernel_rfl) ?_
            refine W_nil ?_
            refine N_then ?_
            refine G_ret ?_
            refine N_then_ret ?_
            refine N_block_ret ?_
            refine N_then_ret ?_
            refine N_then_ret ?_
            obtain rfl := Option.some.inj hm
            obtain rfl := hout1668 _ rfl
            have hm := hmo1675; simp only [Sum.elim_inr] at hm
            refine N_block_ret ?_
            refine N_meet_ret ?_
            refine N_then_ret ?_
            obtain rfl := Option.some.inj hm
            refine N_ret [.bool false] (RVs_cons (RV_tmp (by kernel_rfl)) RVs_nil) ?_
            exact ⟨rfl, M1726.pick [] (by kernel_rfl)⟩
          · refine G_cond_f (b := o1708) hc1729 (by kernel_rfl) ?_
            refine G_skip ?_
            refine N_then ?_
            refine G_seq ?_
            refine G_seq ?_
            obtain ⟨o1741, ho1742, hm1743⟩ := gx_bind hm
            refine G_meet (fun a w' => Mem [] w w' [[(b1689, .cells ⟨[.int .i64 y1687.Irq, .int .i64 y1687.Priority]⟩ 142 (0, 0))]] ∧ Sat Tryz.f189.ntmps [(0, .slice p1346 x1344.length c1347), (1, .slice p1351 x1349.length c1352), (5, .int .i64 s1666), (6, .pointer (some ⟨b1689, 0, none⟩)), (60, .bool o1741)] a) ?_ ?_
            · have hm := ho1742
              refine G_quiet (by kernel_rfl) (by kernel_rfl) M1726 ?_
              refine Z_runs [.int .i64 s1666, .bool (decide (s1666 > 0)), .bool (decide (s1666 > 0))] [(0, .slice p1346 x1344.length c1347), (1, .slice p1351 x1349.length c1352), (5, .int .i64 s1666), (6, .pointer (some ⟨b1689, 0, none⟩)), (41, .bool (decide (s1666 > 0)))] (fun w_ => by kernel_rfl) (by kernel_rfl) ?_
              rcases gx_bif hm with ⟨hc1744, hm⟩ | ⟨hc1744, hm⟩
              · refine Z_known 41 true (by kernel_rfl) hc1744 ?_
                refine Z_runs [.slice p1351 x1349.length c1352, .int .i64 s1666, .int .i64 (w64 (s1666 - 1))] [(0, .slice p1346 x1344.length c1347), (1, .slice p1351 x1349.length c1352), (5, .int .i64 s1666), (6, .pointer (some ⟨b1689, 0, none⟩)), (41, .bool true), (42, .slice p1351 x1349.length c1352), (44, .int .i64 (w64 (s1666 - 1)))] (fun w_ => by kernel_rfl) (by kernel_rfl) ?_
                obtain ⟨y1745, hy1745, hm⟩ := gx_bind hm
                refine Z_val (elemP p1351 ((w64 (s1666 - 1)).toNat * 2)) (by kernel_rfl) (fun w_ M_ => (E_index (E := encWaiter) _ _ _ x1349.length c1352 .i64 (w64 (s1666 - 1)) 2 (y := y1745) rfl (by kernel_rfl) (by kernel_rfl) (by kernel_rfl) (h1353.mem0 M_) rfl hy1745)) ?_
                refine Z_val (elemP p1351 ((w64 (s1666 - 1)).toNat * 2 + 1)) (by kernel_rfl) (fun w_ M_ => (E_fieldE (E := encWaiter) _ _ 1 ((w64 (s1666 - 1)).toNat * 2) 1 rfl (by kernel_rfl) (by kernel_rfl) (h1353.mem0 M_) hy1745)) ?_
                refine Z_val (.int .i64 y1745.Priority) (by kernel_rfl) (fun w_ M_ => (E_loadE (E := encWaiter) _ _ false 1 (w64 (s1666 - 1)) 1 ((w64 (s1666 - 1)).toNat * 2 + 1) y1745 (.int .i64 y1745.Priority) rfl (by kernel_rfl) (by kernel_rfl) (by kernel_rfl) (h1353.mem0 M_) hy1745 rfl)) ?_
                refine Z_runs [.slice p1351 x1349.length c1352, .int .i64 s1666, .int .i64 (w64 (s1666 - 1))] [(0, .slice p1346 x1344.length c1347), (1, .slice p1351 x1349.length c1352), (5, .int .i64 s1666), (6, .pointer (some ⟨b1689, 0, none⟩)), (41, .bool true), (47, .int .i64 y1745.Priority), (48, .slice p1351 x1349.length c1352), (50, .int .i64 (w64 (s1666 - 1)))] (fun w_ => by kernel_rfl) (by kernel_rfl) ?_
                obtain ⟨y1746, hy1746, hm⟩ := gx_bind hm
                refine Z_val (elemP p1351 ((w64 (s1666 - 1)).toNat * 2)) (by kernel_rfl) (fun w_ M_ => (E_index (E := encWaiter) _ _ _ x1349.length c1352 .i64 (w64 (s1666 - 1)) 2 (y := y1746) rfl (by kernel_rfl) (by kernel_rfl) (by kernel_rfl) (h1353.mem0 M_) rfl hy1746)) ?_
                refine Z_val (elemP p1351 ((w64 (s1666 - 1)).toNat * 2 + 0)) (by kernel_rfl) (fun w_ M_ => (E_fieldE (E := encWaiter) _ _ 0 ((w64 (s1666 - 1)).toNat * 2) 0 rfl (by kernel_rfl) (by kernel_rfl) (h1353.mem0 M_) hy1746)) ?_
                refine Z_val (.int .i64 y1746.Irq) (by kernel_rfl) (fun w_ M_ => (E_loadE (E := encWaiter) _ _ false 1 (w64 (s1666 - 1)) 0 ((w64 (s1666 - 1)).toNat * 2 + 0) y1746 (.int .i64 y1746.Irq) rfl (by kernel_rfl) (by kernel_rfl) (by kernel_rfl) (h1353.mem0 M_) hy1746 rfl)) ?_
                refine Z_runs [.pointer (some ⟨b1689, 1, none⟩)] [(0, .slice p1346 x1344.length c1347), (1, .slice p1351 x1349.length c1352), (5, .int .i64 s1666), (6, .pointer (some ⟨b1689, 0, none⟩)), (41, .bool true), (47, .int .i64 y1745.Priority), (53, .int .i64 y1746.Irq), (54, .pointer (some ⟨b1689, 1, none⟩))] (fun w_ => by kernel_rfl) (by kernel_rfl) ?_
                refine Z_val (.int .i64 y1687.Priority) (by kernel_rfl) (fun w_ M_ => (E_load (e := 142) (fr := (0, 0)) _ _ false 1 b1689 1 [.int .i64 y1687.Irq, .int .i64 y1687.Priority] (.int .i64 y1687.Priority) rfl (by kernel_rfl) (by kernel_rfl) (by kernel_rfl) (M_.blk 0 (b := b1689) (o := .cells ⟨[.int .i64 y1687.Irq, .int .i64 y1687.Priority]⟩ 142 (0, 0)) (by kernel_rfl)))) ?_
                refine Z_runs [.pointer (some ⟨b1689, 0, none⟩)] [(0, .slice p1346 x1344.length c1347), (1, .slice p1351 x1349.length c1352), (5, .int .i64 s1666), (6, .pointer (some ⟨b1689, 0, none⟩)), (41, .bool true), (47, .int .i64 y1745.Priority), (53, .int .i64 y1746.Irq), (55, .int .i64 y1687.Priority), (56, .pointer (some ⟨b1689, 0, none⟩))] (fun w_ => by kernel_rfl) (by kernel_rfl) ?_
                refine Z_val (.int .i64 y1687.Irq) (by kernel_rfl) (fun w_ M_ => (E_load (e := 142) (fr := (0, 0)) _ _ false 1 b1689 0 [.int .i64 y1687.Irq, .int .i64 y1687.Priority] (.int .i64 y1687.Irq) rfl (by kernel_rfl) (by kernel_rfl) (by kernel_rfl) (M_.blk 0 (b := b1689) (o := .cells ⟨[.int .i64 y1687.Irq, .int .i64 y1687.Priority]⟩ 142 (0, 0)) (by kernel_rfl)))) ?_
                obtain ⟨r1747, hr1747, hm⟩ := gx_bind hm
                refine Z_call 171 #[.int .i64 y1745.Priority, .int .i64 y1746.Irq, .int .i64 y1687.Priority, .int .i64 y1687.Irq] (.bool r1747) (by kernel_rfl) (fun w_ => by kernel_rfl) (fun w_ M_ => (c_s_l8Less w_ y1745.Priority y1746.Irq y1687.Priority y1687.Irq hr1747).mono fun e w2_ h_ => ⟨h_.1, M_.call0 h_.2⟩) ?_
                refine Z_runs [.bool (!r1747), .bool (!r1747)] [(0, .slice p1346 x1344.length c1347), (1, .slice p1351 x1349.length c1352), (5, .int .i64 s1666), (6, .pointer (some ⟨b1689, 0, none⟩)), (60, .bool (!r1747))] (fun w_ => by kernel_rfl) (by kernel_rfl) ?_
                refine Z_end fun w1751 M1752 => ?_
                obtain rfl := Option.some.inj hm
                exact N_meet fun a ha => ⟨M1752.pick [0] (by kernel_rfl), ha.sub (by kernel_rfl)⟩
              · refine Z_known 41 false (by kernel_rfl) hc1744 ?_
                refine Z_runs [undef, undef, undef, undef, undef, undef, undef, undef, undef, undef, undef, undef, undef, undef, undef, undef, undef, undef, .bool false] [(0, .slice p1346 x1344.length c1347), (1, .slice p1351 x1349.length c1352), (5, .int .i64 s1666), (6, .pointer (some ⟨b1689, 0, none⟩)), (60, .bool false)] (fun w_ => by kernel_rfl) (by kernel_rfl) ?_
                refine Z_end fun w1753 M1754 => ?_
                obtain rfl := Option.some.inj hm
                exact N_meet fun a ha => ⟨M1754.pick [0] (by kernel_rfl), ha.sub (by kernel_rfl)⟩
            · intro a1757 w1755 ⟨M1756, hS1758⟩
              refine N_use hS1758 ?_
              have hm := hm1743
              refine N_then ?_
              rcases gx_bif hm with ⟨hc1759, hm⟩ | ⟨hc1759, hm⟩
              · refine G_cond_t (b := o1741) hc1759 (by kernel_rfl) ?_
                refine G_seq ?_
                refine G_region ?_
                refine W_run 1 [(4, .bool false)] w1755 (by kernel_rfl) ?_
                refine W_nil ?_
                refine N_then ?_
                refine G_ret ?_
                refine N_then_ret ?_
                refine N_block_ret ?_
                refine N_then_ret ?_
                refine N_then_ret ?_
                obtain rfl := Option.some.inj hm
                obtain rfl := hout1668 _ rfl
                have hm := hmo1675; simp only [Sum.elim_inr] at hm
                refine N_block_ret ?_
                refine N_meet_ret ?_
                refine N_then_ret ?_
                obtain rfl := Option.some.inj hm
                refine N_ret [.bool false] (RVs_cons (RV_tmp (by kernel_rfl)) RVs_nil) ?_
                exact ⟨rfl, M1756.pick [] (by kernel_rfl)⟩
              · refine G_cond_f (b := o1741) hc1759 (by kernel_rfl) ?_
                refine G_skip ?_
                refine N_then ?_
                refine G_seq ?_
                refine G_region ?_
                refine W_run 1 [(0, .slice p1346 x1344.length c1347), (1, .slice p1351 x1349.length c1352), (5, .int .i64 s1666), (6, .pointer (some ⟨b1689, 0, none⟩)), (7, .int .i64 0)] w1755 (by kernel_rfl) ?_
                refine W_nil ?_
                refine N_then ?_
                obtain ⟨out1777, hw1778, hmo1779⟩ := gx_bind hm
                refine G_meet (fun a w' => ∃ (o1780 : Unit), out1777 = .inl o1780 ∧ Mem [] w w' [] ∧ Sat Tryz.f189.ntmps [(0, .slice p1346 x1344.length c1347), (1, .slice p1351 x1349.length c1352), (5, .int .i64 s1666)] a) ?_ ?_
                · refine G_block ?_
                  refine G_while (σ := Int) (ρ := (Unit) ⊕ (Bool)) (fun s1770 a w' => Mem [] w w' [[(b1689, .cells ⟨[.int .i64 y1687.Irq, .int .i64 y1687.Priority]⟩ 142 (0, 0))]] ∧ Sat Tryz.f189.ntmps [(0, .slice p1346 x1344.length c1347), (1, .slice p1351 x1349.length c1352), (5, .int .i64 s1666), (6, .pointer (some ⟨b1689, 0, none⟩)), (7, .int .i64 s1770)] a) hw1778 (fun a ha => ⟨M1756.pick [0] (by kernel_rfl), ha.sub (by kernel_rfl)⟩) ?_
                  clear hm
                  intro s1770 x1771 hm hout1772 a1773 w1774 ⟨M1775, hS1776⟩
                  refine G_use hS1776 ?_
                  refine G_seq ?_
                  refine G_seq ?_
                  refine G_region ?_
                  refine W_run 3 [(0, .slice p1346 x1344.length c1347), (1, .slice p1351 x1349.length c1352), (5, .int .i64 s1666), (6, .pointer (some ⟨b1689, 0, none⟩)), (7, .int .i64 s1770), (63, .bool (decide (s1770 < s1666)))] w1774 (by kernel_rfl) ?_
                  refine W_nil ?_
                  refine N_then ?_
                  rcases gx_bif hm with ⟨hc1781, hm⟩ | ⟨hc1781, hm⟩
                  · refine G_cond_t (b := (decide (s1770 < s1666))) hc1781 (by kernel_rfl) ?_
                    refine G_skip ?_
                    refine N_then ?_
                    refine G_seq ?_
                    refine G_block ?_
                    refine G_seq ?_
                    refine G_quiet (by kernel_rfl) (by kernel_rfl) M1775 ?_
                    refine Z_runs [.slice p1351 x1349.length c1352, .int .i64 s1770] [(0, .slice p1346 x1344.length c1347), (1, .slice p1351 x1349.length c1352), (5, .int .i64 s1666), (6, .pointer (some ⟨b1689, 0, none⟩)), (7, .int .i64 s1770), (66, .slice p1351 x1349.length c1352), (67, .int .i64 s1770)] (fun w_ => by kernel_rfl) (by kernel_rfl) ?_
                    obtain ⟨y1782, hy1782, hm⟩ := gx_bind hm
                    refine Z_val (elemP p1351 (s1770.toNat * 2)) (by kernel_rfl) (fun w_ M_ => (E_index (E := encWaiter) _ _ _ x1349.length c1352 .i64 s1770 2 (y := y1782) rfl (by kernel_rfl) (by kernel_rfl) (by kernel_rfl) (h1353.mem0 M_) rfl hy1782)) ?_
                    refine Z_val (elemP p1351 (s1770.toNat * 2 + 0)) (by kernel_rfl) (fun w_ M_ => (E_fieldE (E := encWaiter) _ _ 0 (s1770.toNat * 2) 0 rfl (by kernel_rfl) (by kernel_rfl) (h1353.mem0 M_) hy1782)) ?_
                    refine Z_val (.int .i64 y1782.Irq) (by kernel_rfl) (fun w_ M_ => (E_loadE (E := encWaiter) _ _ false 1 s1770 0 (s1770.toNat * 2 + 0) y1782 (.int .i64 y1782.Irq) rfl (by kernel_rfl) (by kernel_rfl) (by kernel_rfl) (h1353.mem0 M_) hy1782 rfl)) ?_
                    refine Z_runs [.pointer (some ⟨b1689, 0, none⟩)] [(0, .slice p1346 x1344.length c1347), (1, .slice p1351 x1349.length c1352), (5, .int .i64 s1666), (6, .pointer (some ⟨b1689, 0, none⟩)), (7, .int .i64 s1770), (70, .int .i64 y1782.Irq), (71, .pointer (some ⟨b1689, 0, none⟩))] (fun w_ => by kernel_rfl) (by kernel_rfl) ?_
                    refine Z_val (.int .i64 y1687.Irq) (by kernel_rfl) (fun w_ M_ => (E_load (e := 142) (fr := (0, 0)) _ _ false 1 b1689 0 [.int .i64 y1687.Irq, .int .i64 y1687.Priority] (.int .i64 y1687.Irq) rfl (by kernel_rfl) (by kernel_rfl) (by kernel_rfl) (M_.blk 0 (b := b1689) (o := .cells ⟨[.int .i64 y1687.Irq, .int .i64 y1687.Priority]⟩ 142 (0, 0)) (by kernel_rfl)))) ?_
                    refine Z_runs [.bool (y1782.Irq == y1687.Irq)] [(0, .slice p1346 x1344.length c1347), (1, .slice p1351 x1349.length c1352), (5, .int .i64 s1666), (6, .pointer (some ⟨b1689, 0, none⟩)), (7, .int .i64 s1770), (73, .bool (y1782.Irq == y1687.Irq))] (fun w_ => by kernel_rfl) (by kernel_rfl) ?_
                    refine Z_end fun w1783 M1784 => ?_
                    refine N_then ?_
                    rcases gx_bif hm with ⟨hc1785, hm⟩ | ⟨hc1785, hm⟩
                    · refine G_cond_t (b := (y1782.Irq == y1687.Irq)) hc1785 (by kernel_rfl) ?_
                      refine G_seq ?_
                      refine G_region ?_
                      refine W_run 1 [(4, .bool false)] w1783 (by kernel_rfl) ?_
                      refine W_nil ?_
                      refine N_then ?_
                      refine G_ret ?_
                      refine N_block_ret ?_
                      refine N_then_ret ?_
                      refine N_then_ret ?_
                      obtain rfl := Option.some.inj hm
                      obtain rfl := hout1772 _ rfl
                      have hm := hmo1779; simp only [Sum.elim_inr] at hm
                      refine N_block_ret ?_
                      refine N_meet_ret ?_
                      refine N_block_ret ?_
                      refine N_then_ret ?_
                      refine N_then_ret ?_
                      obtain rfl := Option.some.inj hm
                      obtain rfl := hout1668 _ rfl
                      have hm := hmo1675; simp only [Sum.elim_inr] at hm
                      refine N_block_ret ?_
                      refine N_meet_ret ?_
                      refine N_then_ret ?_
                      obtain rfl := Option.some.inj hm
                      refine N_ret [.bool false] (RVs_cons (RV_tmp (by kernel_rfl)) RVs_nil) ?_
                      exact ⟨rfl, M1784.pick [] (by kernel_rfl)⟩
                    · refine G_cond_f (b := (y1782.Irq == y1687.Irq)) hc1785 (by kernel_rfl) ?_
                      refine G_skip ?_
                      refine N_block ?_
                      refine N_then ?_
                      refine G_region ?_
                      refine W_run 3 [(0, .slice p1346 x1344.length c1347), (1, .slice p1351 x1349.length c1352), (5, .int .i64 s1666), (6, .pointer (some ⟨b1689, 0, none⟩)), (7, .int .i64 (w64 (s1770 + 1)))] w1783 (by kernel_rfl) ?_
                      refine W_nil ?_
                      obtain rfl := Option.some.inj hm
                      exact N_loop fun a ha => ⟨_, rfl, M1784.pick [0] (by kernel_rfl), ha.sub (by kernel_rfl)⟩
                  · refine G_cond_f (b := (decide (s1770 < s1666))) hc1781 (by kernel_rfl) ?_
                    refine G_exit ?_
                    refine N_then_exit ?_
                    refine N_then_exit ?_
                    refine N_block_eq ?_
                    obtain rfl := Option.some.inj hm
                    obtain rfl := hout1772 _ rfl
                    exact N_meet fun a ha => ⟨_, rfl, M1775.pick [] (by kernel_rfl), ha.sub (by kernel_rfl)⟩
                · intro a1786 w1787 ⟨o1780, hout_, M1788, hS1789⟩
                  refine N_use hS1789 ?_
                  subst hout_
                  have hm := hmo1779; simp only [Sum.elim_inl] at hm
                  refine N_block ?_
                  refine N_then ?_
                  refine G_region ?_
                  refine W_run 3 [(0, .slice p1346 x1344.length c1347), (1, .slice p1351 x1349.length c1352), (5, .int .i64 (w64 (s1666 + 1)))] w1787 (by kernel_rfl) ?_
                  refine W_nil ?_
                  obtain rfl := Option.some.inj hm
                  exact N_loop fun a ha => ⟨_, rfl, M1788.pick [] (by kernel_rfl), ha.sub (by kernel_rfl)⟩
      · refine G_cond_f (b := o1678) hc1686 (by kernel_rfl) ?_
        refine G_exit ?_
        refine N_then_exit ?_
        refine N_then_exit ?_
        refine N_block_eq ?_
        obtain rfl := Option.some.inj hm
        obtain rfl := hout1668 _ rfl
        exact N_meet fun a ha => ⟨_, rfl, M1683.pick [] (by kernel_rfl), ha.sub (by kernel_rfl)⟩
  · intro a1790 w1791 ⟨o1676, hout_, M1792, hS1793⟩
    refine N_use hS1793 ?_
    subst hout_
    have hm := hmo1675; simp only [Sum.elim_inl] at hm
    refine N_then ?_
    refine G_seq ?_
    obtain ⟨o2053, ho2054, hm2055⟩ := gx_bind hm
    refine G_meet (fun a w' => Mem [] w w' [] ∧ Sat Tryz.f189.ntmps [(4, .bool o2053)] a) ?_ ?_
    · have hm := ho2054
      refine G_region ?_
      refine W_run 1 [(1, .slice p1351 x1349.length c1352), (74, .slice p1346 x1344.length c1347)] w1791 (by kernel_rfl) ?_
      obtain ⟨r2056, hr2056, hm⟩ := gx_bind hm
      refine W_call 234 #[.slice p1346 x1344.length c1347] (by kernel_rfl) (by kernel_rfl) ?_
      refine (c_s_l8Good w1791 x1344 p1346 c1347 (h1348.mem0 M1792) hr2056).mono ?_
      rintro e_ w2057 ⟨rfl, K2058⟩
      have M2059 := M1792.call0 K2058
      refine ⟨_, rfl, ?_⟩
      refine W_run 1 [(1, .slice p1351 x1349.length c1352), (76, .bool r2056)] w2057 (by kernel_rfl) ?_
      rcases gx_bif hm with ⟨hc2060, hm⟩ | ⟨hc2060, hm⟩
      · refine W_known 76 true (by kernel_rfl) hc2060 ?_
        refine W_run 5 [(4, .bool (decide ((x1349.length : Int) ≤ 8)))] w2057 (by kernel_rfl) ?_
        refine W_nil ?_
        obtain rfl := Option.some.inj hm
        exact N_meet fun a ha => ⟨M2059.pick [] (by kernel_rfl), ha.sub (by kernel_rfl)⟩
      · refine W_known 76 false (by kernel_rfl) hc2060 ?_
        refine W_run 5 [(4, .bool false)] w2057 (by kernel_rfl) ?_
        refine W_nil ?_
        obtain rfl := Option.some.inj hm
        exact N_meet fun a ha => ⟨M2059.pick [] (by kernel_rfl), ha.sub (by kernel_rfl)⟩
    · intro a2063 w2061 ⟨M2062, hS2064⟩
      refine N_use hS2064 ?_
      have hm := hm2055
      refine N_then ?_
      refine G_ret ?_
      obtain rfl := Option.some.inj hm
      refine N_ret [.bool o2053] (RVs_cons (RV_tmp (by kernel_rfl)) RVs_nil) ?_
      exact ⟨rfl, M2062.pick [] (by kernel_rfl)⟩
theorem c_s_l8Free (w : World) (x2084 : List Slot) (p2086 : Option Addr) (c2087 : Nat) (h2088 : rdS encSlot w x2084 p2086 c2087) {r : Int} (hm : M.s_l8Free x2084 = some r) :
    Calls Tryz.prog 235 #[.slice p2086 x2084.length c2087] w fun e w' => e = .returned (.int .i64 r) ∧ Mem [] w w' [] := by
  unfold M.s_l8Free at hm
  refine C_enter Tryz.func235 rfl (by kernel_rfl) ?_
  have M0 := Mem.refl [] w
  refine G_seq ?_
  refine G_region ?_
  refine W_run 1 [(0, .slice p2086 x2084.length c2087)] w (by kernel_rfl) ?_
  refine W_nil ?_
  refine N_then ?_
  refine G_seq ?_
  refine G_seq ?_
  refine G_region ?_
  refine W_run 1 [(0, .slice p2086 x2084.length c2087), (3, .int .i64 0)] w (by kernel_rfl) ?_
  refine W_nil ?_
  refine N_then ?_
  obtain ⟨out2102, hw2103, hmo2104⟩ := gx_bind hm
  refine G_meet (fun a w' => ∃ (o2105 : Unit), out2102 = .inl o2105 ∧ Mem [] w w' [] ∧ Sat Tryz.f235.ntmps [] a) ?_ ?_
  · refine G_block ?_
    refine G_while (σ := Int) (ρ := (Unit) ⊕ (Int)) (fun s2095 a w' => Mem [] w w' [] ∧ Sat Tryz.f235.ntmps [(0, .slice p2086 x2084.length c2087), (3, .int .i64 s2095)] a) hw2103 (fun a ha => ⟨M0.pick [] (by kernel_rfl), ha.sub (by kernel_rfl)⟩) ?_
    clear hm
    intro s2095 x2096 hm hout2097 a2098 w2099 ⟨M2100, hS2101⟩
    refine G_use hS2101 ?_
    refine G_seq ?_
    refine G_seq ?_
    refine G_region ?_
    refine W_run 4 [(0, .slice p2086 x2084.length c2087), (3, .int .i64 s2095), (7, .bool (decide (s2095 < (x2084.length : Int))))] w2099 (by kernel_rfl) ?_
    refine W_nil ?_
    refine N_then ?_
    rcases gx_bif hm with ⟨hc2106, hm⟩ | ⟨hc2106, hm⟩
    · refine G_cond_t (b := (decide (s2095 < (x2084.length : Int)))) hc2106 (by kernel_rfl) ?_
      refine G_skip ?_
      refine N_then ?_
      refine G_seq ?_
      refine G_block ?_
      refine G_seq ?_
      refine G_region ?_
      refine W_run 2 [(0, .slice p2086 x2084.length c2087), (3, .int .i64 s2095), (10, .slice p2086 x2084.length c2087), (11, .int .i64 s2095)] w2099 (by kernel_rfl) ?_
      obtain ⟨y2107, hy2107, hm⟩ := gx_bind hm
      refine W_val (elemP p2086 (s2095.toNat * 3)) w2099 (by kernel_rfl) (E_index (E := encSlot) _ _ _ x2084.length c2087 .i64 s2095 3 (y := y2107) rfl (by kernel_rfl) (by kernel_rfl) (by kernel_rfl) (h2088.mem0 M2100) rfl hy2107) ?_
      refine W_val (elemP p2086 (s2095.toNat * 3 + 0)) w2099 (by kernel_rfl) (E_fieldE (E := encSlot) _ _ 0 (s2095.toNat * 3) 0 rfl (by kernel_rfl) (by kernel_rfl) (h2088.mem0 M2100) hy2107) ?_
      refine W_val (.int .i64 y2107.State) w2099 (by kernel_rfl) (E_loadE (E := encSlot) _ _ false 1 s2095 0 (s2095.toNat * 3 + 0) y2107 (.int .i64 y2107.State) rfl (by kernel_rfl) (by kernel_rfl) (by kernel_rfl) (h2088.mem0 M2100) hy2107 rfl) ?_
      refine W_run 1 [(0, .slice p2086 x2084.length c2087), (3, .int .i64 s2095), (15, .bool (y2107.State == 0))] w2099 (by kernel_rfl) ?_
      refine W_nil ?_
      refine N_then ?_
      rcases gx_bif hm with ⟨hc2108, hm⟩ | ⟨hc2108, hm⟩
      · refine G_cond_t (b := (y2107.State == 0)) hc2108 (by kernel_rfl) ?_
        refine G_seq ?_
        refine G_region ?_
        refine W_run 2 [(2, .int .i64 s2095)] w2099 (by kernel_rfl) ?_
        refine W_nil ?_
        refine N_then ?_
        refine G_ret ?_
        refine N_block_ret ?_
        refine N_then_ret ?_
        refine N_then_ret ?_
        obtain rfl := Option.some.inj hm
        obtain rfl := hout2097 _ rfl
        have hm := hmo2104; simp only [Sum.elim_inr] at hm
        refine N_block_ret ?_
        refine N_meet_ret ?_
        refine N_then_ret ?_
        obtain rfl := Option.some.inj hm
        refine N_ret [.int .i64 s2095] (RVs_cons (RV_tmp (by kernel_rfl)) RVs_nil) ?_
        exact ⟨rfl, M2100.pick [] (by kernel_rfl)⟩
      · refine G_cond_f (b := (y2107.State == 0)) hc2108 (by kernel_rfl) ?_
        refine G_skip ?_
        refine N_block ?_
        refine N_then ?_
        refine G_region ?_
        refine W_run 3 [(0, .slice p2086 x2084.length c2087), (3, .int .i64 (w64 (s2095 + 1)))] w2099 (by kernel_rfl) ?_
        refine W_nil ?_
        obtain rfl := Option.some.inj hm
        exact N_loop fun a ha => ⟨_, rfl, M2100.pick [] (by kernel_rfl), ha.sub (by kernel_rfl)⟩
    · refine G_cond_f (b := (decide (s2095 < (x2084.length : Int)))) hc2106 (by kernel_rfl) ?_
      refine G_exit ?_
      refine N_then_exit ?_
      refine N_then_exit ?_
      refine N_block_eq ?_
      obtain rfl := Option.some.inj hm
      obtain rfl := hout2097 _ rfl
      exact N_meet fun a ha => ⟨_, rfl, M2100.pick [] (by kernel_rfl), ha.sub (by kernel_rfl)⟩
  · intro a2109 w2110 ⟨o2105, hout_, M2111, hS2112⟩
    refine N_use hS2112 ?_
    subst hout_
    have hm := hmo2104; simp only [Sum.elim_inl] at hm
    refine N_then ?_
    refine G_seq ?_
    refine G_region ?_
    refine W_run 1 [(2, .int .i64 (-1))] w2110 (by kernel_rfl) ?_
    refine W_nil ?_
    refine N_then ?_
    refine G_ret ?_
    obtain rfl := Option.some.inj hm
    refine N_ret [.int .i64 (-1)] (RVs_cons (RV_tmp (by kernel_rfl)) RVs_nil) ?_
    exact ⟨rfl, M2111.pick [] (by kernel_rfl)⟩
end Go.Proofs.YtllhajkgkghhdaaGreat
