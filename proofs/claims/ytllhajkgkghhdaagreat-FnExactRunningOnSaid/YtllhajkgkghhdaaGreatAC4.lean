/- The walks, printed by program: whenever the model gives r, the call returns r. Part 4. -/
import Derived.Test.YtllhajkgkghhdaaGreatAM
import Derived.Test.YtllhajkgkghhdaaGreatProg
import Derived.Test.YtllhajkgkghhdaaGreatSh
import Derived.Test.YtllhajkgkghhdaaGreatAC3
set_option linter.unusedVariables false
set_option maxRecDepth 100000
set_option maxHeartbeats 4000000
namespace Go.Proofs.YtllhajkgkghhdaaGreat
open Go.Gx
theorem c_l_eqSlot (w : World) (x6760 : Slot) (x6761 : Slot) {r : Bool} (hm : M.l_eqSlot x6760 x6761 = some r) :
    Calls Tryz.prog 246 #[.agg #[.int .i64 x6760.State, .int .i64 x6760.Irq, .int .i64 x6760.Priority], .agg #[.int .i64 x6761.State, .int .i64 x6761.Irq, .int .i64 x6761.Priority]] w fun e w' => e = .returned (.bool r) ∧ Mem [] w w' [] := by
  unfold M.l_eqSlot at hm
  refine C_enter Tryz.func246 rfl (by kernel_rfl) ?_
  have M0 := Mem.refl [] w
  refine G_seq ?_
  refine G_region ?_
  refine W_new (fun b => .pointer (some ⟨b, 0, none⟩)) (.cells ⟨[.int .i64 x6760.State, .int .i64 x6760.Irq, .int .i64 x6760.Priority]⟩ 117 (0, 0)) M0 rfl (by kernel_rfl) (by kernel_rfl) ?_
  intro b6763 w6764 M6765
  refine W_new (fun b => .pointer (some ⟨b, 0, none⟩)) (.cells ⟨[.int .i64 x6761.State, .int .i64 x6761.Irq, .int .i64 x6761.Priority]⟩ 117 (0, 0)) M6765 rfl (by kernel_rfl) (by kernel_rfl) ?_
  intro b6767 w6768 M6769
  refine W_run 1 [(2, .pointer (some ⟨b6763, 0, none⟩)), (3, .pointer (some ⟨b6767, 0, none⟩))] w6768 (by kernel_rfl) ?_
  refine W_nil ?_
  refine N_then ?_
  refine G_seq ?_
  refine G_seq ?_
  refine G_region ?_
  refine W_run 1 [(2, .pointer (some ⟨b6763, 0, none⟩)), (3, .pointer (some ⟨b6767, 0, none⟩)), (5, .pointer (some ⟨b6763, 0, none⟩))] w6768 (by kernel_rfl) ?_
  refine W_val (.int .i64 x6760.State) w6768 (by kernel_rfl) (E_load (e := 117) (fr := (0, 0)) _ _ false 1 b6763 0 [.int .i64 x6760.State, .int .i64 x6760.Irq, .int .i64 x6760.Priority] (.int .i64 x6760.State) rfl (by kernel_rfl) (by kernel_rfl) (by kernel_rfl) (M6769.blk 0 (b := b6763) (o := .cells ⟨[.int .i64 x6760.State, .int .i64 x6760.Irq, .int .i64 x6760.Priority]⟩ 117 (0, 0)) (by kernel_rfl))) ?_
  refine W_run 1 [(2, .pointer (some ⟨b6763, 0, none⟩)), (3, .pointer (some ⟨b6767, 0, none⟩)), (6, .int .i64 x6760.State), (7, .pointer (some ⟨b6767, 0, none⟩))] w6768 (by kernel_rfl) ?_
  refine W_val (.int .i64 x6761.State) w6768 (by kernel_rfl) (E_load (e := 117) (fr := (0, 0)) _ _ false 1 b6767 0 [.int .i64 x6761.State, .int .i64 x6761.Irq, .int .i64 x6761.Priority] (.int .i64 x6761.State) rfl (by kernel_rfl) (by kernel_rfl) (by kernel_rfl) (M6769.blk 1 (b := b6767) (o := .cells ⟨[.int .i64 x6761.State, .int .i64 x6761.Irq, .int .i64 x6761.Priority]⟩ 117 (0, 0)) (by kernel_rfl))) ?_
  refine W_run 1 [(2, .pointer (some ⟨b6763, 0, none⟩)), (3, .pointer (some ⟨b6767, 0, none⟩)), (9, .bool (x6760.State != x6761.State))] w6768 (by kernel_rfl) ?_
  refine W_nil ?_
  refine N_then ?_
  rcases gx_bif hm with ⟨hc6770, hm⟩ | ⟨hc6770, hm⟩
  · refine G_cond_t (b := (x6760.State != x6761.State)) hc6770 (by kernel_rfl) ?_
    refine G_seq ?_
    refine G_region ?_
    refine W_run 1 [(4, .bool false)] w6768 (by kernel_rfl) ?_
    refine W_nil ?_
    refine N_then ?_
    refine G_ret ?_
    refine N_then_ret ?_
    obtain rfl := Option.some.inj hm
    refine N_ret [.bool false] (RVs_cons (RV_tmp (by kernel_rfl)) RVs_nil) ?_
    exact ⟨rfl, M6769.pick [] (by kernel_rfl)⟩
  · refine G_cond_f (b := (x6760.State != x6761.State)) hc6770 (by kernel_rfl) ?_
    refine G_skip ?_
    refine N_then ?_
    refine G_seq ?_
    refine G_seq ?_
    refine G_region ?_
    refine W_run 1 [(2, .pointer (some ⟨b6763, 0, none⟩)), (3, .pointer (some ⟨b6767, 0, none⟩)), (10, .pointer (some ⟨b6763, 1, none⟩))] w6768 (by kernel_rfl) ?_
    refine W_val (.int .i64 x6760.Irq) w6768 (by kernel_rfl) (E_load (e := 117) (fr := (0, 0)) _ _ false 1 b6763 1 [.int .i64 x6760.State, .int .i64 x6760.Irq, .int .i64 x6760.Priority] (.int .i64 x6760.Irq) rfl (by kernel_rfl) (by kernel_rfl) (by kernel_rfl) (M6769.blk 0 (b := b6763) (o := .cells ⟨[.int .i64 x6760.State, .int .i64 x6760.Irq, .int .i64 x6760.Priority]⟩ 117 (0, 0)) (by kernel_rfl))) ?_
    refine W_run 1 [(2, .pointer (some ⟨b6763, 0, none⟩)), (3, .pointer (some ⟨b6767, 0, none⟩)), (11, .int .i64 x6760.Irq), (12, .pointer (some ⟨b6767, 1, none⟩))] w6768 (by kernel_rfl) ?_
    refine W_val (.int .i64 x6761.Irq) w6768 (by kernel_rfl) (E_load (e := 117) (fr := (0, 0)) _ _ false 1 b6767 1 [.int .i64 x6761.State, .int .i64 x6761.Irq, .int .i64 x6761.Priority] (.int .i64 x6761.Irq) rfl (by kernel_rfl) (by kernel_rfl) (by kernel_rfl) (M6769.blk 1 (b := b6767) (o := .cells ⟨[.int .i64 x6761.State, .int .i64 x6761.Irq, .int .i64 x6761.Priority]⟩ 117 (0, 0)) (by kernel_rfl))) ?_
    refine W_run 1 [(2, .pointer (some ⟨b6763, 0, none⟩)), (3, .pointer (some ⟨b6767, 0, none⟩)), (14, .bool (x6760.Irq != x6761.Irq))] w6768 (by kernel_rfl) ?_
    refine W_nil ?_
    refine N_then ?_
    rcases gx_bif hm with ⟨hc6771, hm⟩ | ⟨hc6771, hm⟩
    · refine G_cond_t (b := (x6760.Irq != x6761.Irq)) hc6771 (by kernel_rfl) ?_
      refine G_seq ?_
      refine G_region ?_
      refine W_run 1 [(4, .bool false)] w6768 (by kernel_rfl) ?_
      refine W_nil ?_
      refine N_then ?_
      refine G_ret ?_
      refine N_then_ret ?_
      obtain rfl := Option.some.inj hm
      refine N_ret [.bool false] (RVs_cons (RV_tmp (by kernel_rfl)) RVs_nil) ?_
      exact ⟨rfl, M6769.pick [] (by kernel_rfl)⟩
    · refine G_cond_f (b := (x6760.Irq != x6761.Irq)) hc6771 (by kernel_rfl) ?_
      refine G_skip ?_
      refine N_then ?_
      refine G_seq ?_
      refine G_seq ?_
      refine G_region ?_
      refine W_run 1 [(3, .pointer (some ⟨b6767, 0, none⟩)), (15, .pointer (some ⟨b6763, 2, none⟩))] w6768 (by kernel_rfl) ?_
      refine W_val (.int .i64 x6760.Priority) w6768 (by kernel_rfl) (E_load (e := 117) (fr := (0, 0)) _ _ false 1 b6763 2 [.int .i64 x6760.State, .int .i64 x6760.Irq, .int .i64 x6760.Priority] (.int .i64 x6760.Priority) rfl (by kernel_rfl) (by kernel_rfl) (by kernel_rfl) (M6769.blk 0 (b := b6763) (o := .cells ⟨[.int .i64 x6760.State, .int .i64 x6760.Irq, .int .i64 x6760.Priority]⟩ 117 (0, 0)) (by kernel_rfl))) ?_
      refine W_run 1 [(16, .int .i64 x6760.Priority), (17, .pointer (some ⟨b6767, 2, none⟩))] w6768 (by kernel_rfl) ?_
      refine W_val (.int .i64 x6761.Priority) w6768 (by kernel_rfl) (E_load (e := 117) (fr := (0, 0)) _ _ false 1 b6767 2 [.int .i64 x6761.State, .int .i64 x6761.Irq, .int .i64 x6761.Priority] (.int .i64 x6761.Priority) rfl (by kernel_rfl) (by kernel_rfl) (by kernel_rfl) (M6769.blk 1 (b := b6767) (o := .cells ⟨[.int .i64 x6761.State, .int .i64 x6761.Irq, .int .i64 x6761.Priority]⟩ 117 (0, 0)) (by kernel_rfl))) ?_
      refine W_run 1 [(19, .bool (x6760.Priority != x6761.Priority))] w6768 (by kernel_rfl) ?_
      refine W_nil ?_
      refine N_then ?_
      rcases gx_bif hm with ⟨hc6772, hm⟩ | ⟨hc6772, hm⟩
      · refine G_cond_t (b := (x6760.Priority != x6761.Priority)) hc6772 (by kernel_rfl) ?_
        refine G_seq ?_
        refine G_region ?_
        refine W_run 1 [(4, .bool false)] w6768 (by kernel_rfl) ?_
        refine W_nil ?_
        refine N_then ?_
        refine G_ret ?_
        refine N_then_ret ?_
        obtain rfl := Option.some.inj hm
        refine N_ret [.bool false] (RVs_cons (RV_tmp (by kernel_rfl)) RVs_nil) ?_
        exact ⟨rfl, M6769.pick [] (by kernel_rfl)⟩
      · refine G_cond_f (b := (x6760.Priority != x6761.Priority)) hc6772 (by kernel_rfl) ?_
        refine G_skip ?_
        refine N_then ?_
        refine G_seq ?_
        refine G_region ?_
        refine W_run 1 [(4, .bool true)] w6768 (by kernel_rfl) ?_
        refine W_nil ?_
        refine N_then ?_
        refine G_ret ?_
        obtain rfl := Option.some.inj hm
        refine N_ret [.bool true] (RVs_cons (RV_tmp (by kernel_rfl)) RVs_nil) ?_
        exact ⟨rfl, M6769.pick [] (by kernel_rfl)⟩
theorem c_l_eqSlotS (w : World) (x6746 : List Slot) (p6748 : Option Addr) (c6749 : Nat) (h6750 : rdS encSlot w x6746 p6748 c6749) (x6751 : List Slot) (p6753 : Option Addr) (c6754 : Nat) (h6755 : rdS encSlot w x6751 p6753 c6754) {r : Bool} (hm : M.l_eqSlotS x6746 x6751 = some r) :
    Calls Tryz.prog 212 #[.slice p6748 x6746.length c6749, .slice p6753 x6751.length c6754] w fun e w' => e = .returned (.bool r) ∧ Mem [] w w' [] := by
  unfold M.l_eqSlotS at hm
  refine C_enter Tryz.func212 rfl (by kernel_rfl) ?_
  have M0 := Mem.refl [] w
  refine G_seq ?_
  refine G_region ?_
  refine W_run 1 [(0, .slice p6748 x6746.length c6749), (1, .slice p6753 x6751.length c6754)] w (by kernel_rfl) ?_
  refine W_nil ?_
  refine N_then ?_
  refine G_seq ?_
  refine G_seq ?_
  refine G_region ?_
  refine W_run 5 [(0, .slice p6748 x6746.length c6749), (1, .slice p6753 x6751.length c6754), (10, .bool ((x6746.length : Int) != (x6751.length : Int)))] w (by kernel_rfl) ?_
  refine W_nil ?_
  refine N_then ?_
  rcases gx_bif hm with ⟨hc6756, hm⟩ | ⟨hc6756, hm⟩
  · refine G_cond_t (b := ((x6746.length : Int) != (x6751.length : Int))) hc6756 (by kernel_rfl) ?_
    refine G_seq ?_
    refine G_region ?_
    refine W_run 1 [(4, .bool false)] w (by kernel_rfl) ?_
    refine W_nil ?_
    refine N_then ?_
    refine G_ret ?_
    refine N_then_ret ?_
    obtain rfl := Option.some.inj hm
    refine N_ret [.bool false] (RVs_cons (RV_tmp (by kernel_rfl)) RVs_nil) ?_
    exact ⟨rfl, M0.pick [] (by kernel_rfl)⟩
  · refine G_cond_f (b := ((x6746.length : Int) != (x6751.length : Int))) hc6756 (by kernel_rfl) ?_
    refine G_skip ?_
    refine N_then ?_
    refine G_seq ?_
    refine G_seq ?_
    refine G_region ?_
    refine W_run 1 [(0, .slice p6748 x6746.length c6749), (1, .slice p6753 x6751.length c6754), (5, .int .i64 0)] w (by kernel_rfl) ?_
    refine W_nil ?_
    refine N_then ?_
    obtain ⟨out6797, hw6798, hmo6799⟩ := gx_bind hm
    refine G_meet (fun a w' => ∃ (o6800 : Unit), out6797 = .inl o6800 ∧ Mem [] w w' [] ∧ Sat Tryz.f212.ntmps [] a) ?_ ?_
    · refine G_block ?_
      refine G_while (σ := Int) (ρ := (Unit) ⊕ (Bool)) (fun s6790 a w' => Mem [] w w' [] ∧ Sat Tryz.f212.ntmps [(0, .slice p6748 x6746.length c6749), (1, .slice p6753 x6751.length c6754), (5, .int .i64 s6790)] a) hw6798 (fun a ha => ⟨M0.pick [] (by kernel_rfl), ha.sub (by kernel_rfl)⟩) ?_
      clear hm
      intro s6790 x6791 hm hout6792 a6793 w6794 ⟨M6795, hS6796⟩
      refine G_use hS6796 ?_
      refine G_seq ?_
      refine G_seq ?_
      refine G_region ?_
      refine W_run 4 [(0, .slice p6748 x6746.length c6749), (1, .slice p6753 x6751.length c6754), (5, .int .i64 s6790), (14, .bool (decide (s6790 < (x6746.length : Int))))] w6794 (by kernel_rfl) ?_
      refine W_nil ?_
      refine N_then ?_
      rcases gx_bif hm with ⟨hc6801, hm⟩ | ⟨hc6801, hm⟩
      · refine G_cond_t (b := (decide (s6790 < (x6746.length : Int)))) hc6801 (by kernel_rfl) ?_
        refine G_skip ?_
        refine N_then ?_
        refine G_seq ?_
        refine G_block ?_
        refine G_seq ?_
        refine G_quiet (by kernel_rfl) (by kernel_rfl) M6795 ?_
        refine Z_runs [.slice p6748 x6746.length c6749, .int .i64 s6790] [(0, .slice p6748 x6746.length c6749), (1, .slice p6753 x6751.length c6754), (5, .int .i64 s6790), (17, .slice p6748 x6746.length c6749), (18, .int .i64 s6790)] (fun w_ => by kernel_rfl) (by kernel_rfl) ?_
        obtain ⟨y6802, hy6802, hm⟩ := gx_bind hm
        refine Z_val (elemP p6748 (s6790.toNat * 3)) (by kernel_rfl) (fun w_ M_ => (E_index (E := encSlot) _ _ _ x6746.length c6749 .i64 s6790 3 (y := y6802) rfl (by kernel_rfl) (by kernel_rfl) (by kernel_rfl) (h6750.mem0 M_) rfl hy6802)) ?_
        refine Z_val (.agg #[.int .i64 y6802.State, .int .i64 y6802.Irq, .int .i64 y6802.Priority]) (by kernel_rfl) (fun w_ M_ => (E_loadE (E := encSlot) _ _ true 3 s6790 0 (s6790.toNat * 3) y6802 (.agg #[.int .i64 y6802.State, .int .i64 y6802.Irq, .int .i64 y6802.Priority]) rfl (by kernel_rfl) (by kernel_rfl) (by kernel_rfl) (h6750.mem0 M_) hy6802 rfl)) ?_
        refine Z_runs [.slice p6753 x6751.length c6754, .int .i64 s6790] [(0, .slice p6748 x6746.length c6749), (1, .slice p6753 x6751.length c6754), (5, .int .i64 s6790), (20, .agg #[.int .i64 y6802.State, .int .i64 y6802.Irq, .int .i64 y6802.Priority]), (21, .slice p6753 x6751.length c6754), (22, .int .i64 s6790)] (fun w_ => by kernel_rfl) (by kernel_rfl) ?_
        obtain ⟨y6803, hy6803, hm⟩ := gx_bind hm
        refine Z_val (elemP p6753 (s6790.toNat * 3)) (by kernel_rfl) (fun w_ M_ => (E_index (E := encSlot) _ _ _ x6751.length c6754 .i64 s6790 3 (y := y6803) rfl (by kernel_rfl) (by kernel_rfl) (by kernel_rfl) (h6755.mem0 M_) rfl hy6803)) ?_
        refine Z_val (.agg #[.int .i64 y6803.State, .int .i64 y6803.Irq, .int .i64 y6803.Priority]) (by kernel_rfl) (fun w_ M_ => (E_loadE (E := encSlot) _ _ true 3 s6790 0 (s6790.toNat * 3) y6803 (.agg #[.int .i64 y6803.State, .int .i64 y6803.Irq, .int .i64 y6803.Priority]) rfl (by kernel_rfl) (by kernel_rfl) (by kernel_rfl) (h6755.mem0 M_) hy6803 rfl)) ?_
        obtain ⟨r6804, hr6804, hm⟩ := gx_bind hm
        refine Z_call 246 #[.agg #[.int .i64 y6802.State, .int .i64 y6802.Irq, .int .i64 y6802.Priority], .agg #[.int .i64 y6803.State, .int .i64 y6803.Irq, .int .i64 y6803.Priority]] (.bool r6804) (by kernel_rfl) (fun w_ => by kernel_rfl) (fun w_ M_ => (c_l_eqSlot w_ y6802 y6803 hr6804).mono fun e w2_ h_ => ⟨h_.1, M_.call0 h_.2⟩) ?_
        refine Z_runs [.bool (!r6804)] [(0, .slice p6748 x6746.length c6749), (1, .slice p6753 x6751.length c6754), (5, .int .i64 s6790), (26, .bool (!r6804))] (fun w_ => by kernel_rfl) (by kernel_rfl) ?_
        refine Z_end fun w6808 M6809 => ?_
        refine N_then ?_
        rcases gx_bif hm with ⟨hc6810, hm⟩ | ⟨hc6810, hm⟩
        · refine G_cond_t (b := (!r6804)) hc6810 (by kernel_rfl) ?_
          refine G_seq ?_
          refine G_region ?_
          refine W_run 1 [(4, .bool false)] w6808 (by kernel_rfl) ?_
          refine W_nil ?_
          refine N_then ?_
          refine G_ret ?_
          refine N_block_ret ?_
          refine N_then_ret ?_
          refine N_then_ret ?_
          obtain rfl := Option.some.inj hm
          obtain rfl := hout6792 _ rfl
          have hm := hmo6799; simp only [Sum.elim_inr] at hm
          refine N_block_ret ?_
          refine N_meet_ret ?_
          refine N_then_ret ?_
          obtain rfl := Option.some.inj hm
          refine N_ret [.bool false] (RVs_cons (RV_tmp (by kernel_rfl)) RVs_nil) ?_
          exact ⟨rfl, M6809.pick [] (by kernel_rfl)⟩
        · refine G_cond_f (b := (!r6804)) hc6810 (by kernel_rfl) ?_
          refine G_skip ?_
          refine N_block ?_
          refine N_then ?_
          refine G_region ?_
          refine W_run 3 [(0, .slice p6748 x6746.length c6749), (1, .slice p6753 x6751.length c6754), (5, .int .i64 (w64 (s6790 + 1)))] w6808 (by kernel_rfl) ?_
          refine W_nil ?_
          obtain rfl := Option.some.inj hm
          exact N_loop fun a ha => ⟨_, rfl, M6809.pick [] (by kernel_rfl), ha.sub (by kernel_rfl)⟩
      · refine G_cond_f (b := (decide (s6790 < (x6746.length : Int)))) hc6801 (by kernel_rfl) ?_
        refine G_exit ?_
        refine N_then_exit ?_
        refine N_then_exit ?_
        refine N_block_eq ?_
        obtain rfl := Option.some.inj hm
        obtain rfl := hout6792 _ rfl
        exact N_meet fun a ha => ⟨_, rfl, M6795.pick [] (by kernel_rfl), ha.sub (by kernel_rfl)⟩
    · intro a6811 w6812 ⟨o6800, hout_, M6813, hS6814⟩
      refine N_use hS6814 ?_
      subst hout_
      have hm := hmo6799; simp only [Sum.elim_inl] at hm
      refine N_then ?_
      refine G_seq ?_
      refine G_region ?_
      refine W_run 1 [(4, .bool true)] w6812 (by kernel_rfl) ?_
      refine W_nil ?_
      refine N_then ?_
      refine G_ret ?_
      obtain rfl := Option.some.inj hm
      refine N_ret [.bool true] (RVs_cons (RV_tmp (by kernel_rfl)) RVs_nil) ?_
      exact ⟨rfl, M6813.pick [] (by kernel_rfl)⟩
theorem c_l_eqWaiter (w : World) (x6834 : Waiter) (x6835 : Waiter) {r : Bool} (hm : M.l_eqWaiter x6834 x6835 = some r) :
    Calls Tryz.prog 247 #[.agg #[.int .i64 x6834.Irq, .int .i64 x6834.Priority], .agg #[.int .i64 x6835.Irq, .int .i64 x6835.Priority]] w fun e w' => e = .returned (.bool r) ∧ Mem [] w w' [] := by
  unfold M.l_eqWaiter at hm
  refine C_enter Tryz.func247 rfl (by kernel_rfl) ?_
  have M0 := Mem.refl [] w
  refine G_seq ?_
  refine G_region ?_
  refine W_new (fun b => .pointer (some ⟨b, 0, none⟩)) (.cells ⟨[.int .i64 x6834.Irq, .int .i64 x6834.Priority]⟩ 142 (0, 0)) M0 rfl (by kernel_rfl) (by kernel_rfl) ?_
  intro b6837 w6838 M6839
  refine W_new (fun b => .pointer (some ⟨b, 0, none⟩)) (.cells ⟨[.int .i64 x6835.Irq, .int .i64 x6835.Priority]⟩ 142 (0, 0)) M6839 rfl (by kernel_rfl) (by kernel_rfl) ?_
  intro b6841 w6842 M6843
  refine W_run 1 [(2, .pointer (some ⟨b6837, 0, none⟩)), (3, .pointer (some ⟨b6841, 0, none⟩))] w6842 (by kernel_rfl) ?_
  refine W_nil ?_
  refine N_then ?_
  refine G_seq ?_
  refine G_seq ?_
  refine G_region ?_
  refine W_run 1 [(2, .pointer (some ⟨b6837, 0, none⟩)), (3, .pointer (some ⟨b6841, 0, none⟩)), (5, .pointer (some ⟨b6837, 0, none⟩))] w6842 (by kernel_rfl) ?_
  refine W_val (.int .i64 x6834.Irq) w6842 (by kernel_rfl) (E_load (e := 142) (fr := (0, 0)) _ _ false 1 b6837 0 [.int .i64 x6834.Irq, .int .i64 x6834.Priority] (.int .i64 x6834.Irq) rfl (by kernel_rfl) (by kernel_rfl) (by kernel_rfl) (M6843.blk 0 (b := b6837) (o := .cells ⟨[.int .i64 x6834.Irq, .int .i64 x6834.Priority]⟩ 142 (0, 0)) (by kernel_rfl))) ?_
  refine W_run 1 [(2, .pointer (some ⟨b6837, 0, none⟩)), (3, .pointer (some ⟨b6841, 0, none⟩)), (6, .int .i64 x6834.Irq), (7, .pointer (some ⟨b6841, 0, none⟩))] w6842 (by kernel_rfl) ?_
  refine W_val (.int .i64 x6835.Irq) w6842 (by kernel_rfl) (E_load (e := 142) (fr := (0, 0)) _ _ false 1 b6841 0 [.int .i64 x6835.Irq, .int .i64 x6835.Priority] (.int .i64 x6835.Irq) rfl (by kernel_rfl) (by kernel_rfl) (by kernel_rfl) (M6843.blk 1 (b := b6841) (o := .cells ⟨[.int .i64 x6835.Irq, .int .i64 x6835.Priority]⟩ 142 (0, 0)) (by kernel_rfl))) ?_
  refine W_run 1 [(2, .pointer (some ⟨b6837, 0, none⟩)), (3, .pointer (some ⟨b6841, 0, none⟩)), (9, .bool (x6834.Irq != x6835.Irq))] w6842 (by kernel_rfl) ?_
  refine W_nil ?_
  refine N_then ?_
  rcases gx_bif hm with ⟨hc6844, hm⟩ | ⟨hc6844, hm⟩
  · refine G_cond_t (b := (x6834.Irq != x6835.Irq)) hc6844 (by kernel_rfl) ?_
    refine G_seq ?_
    refine G_region ?_
    refine W_run 1 [(4, .bool false)] w6842 (by kernel_rfl) ?_
    refine W_nil ?_
    refine N_then ?_
    refine G_ret ?_
    refine N_then_ret ?_
    obtain rfl := Option.some.inj hm
    refine N_ret [.bool false] (RVs_cons (RV_tmp (by kernel_rfl)) RVs_nil) ?_
    exact ⟨rfl, M6843.pick [] (by kernel_rfl)⟩
  · refine G_cond_f (b := (x6834.Irq != x6835.Irq)) hc6844 (by kernel_rfl) ?_
    refine G_skip ?_
    refine N_then ?_
    refine G_seq ?_
    refine G_seq ?_
    refine G_region ?_
    refine W_run 1 [(3, .pointer (some ⟨b6841, 0, none⟩)), (10, .pointer (some ⟨b6837, 1, none⟩))] w6842 (by kernel_rfl) ?_
    refine W_val (.int .i64 x6834.Priority) w6842 (by kernel_rfl) (E_load (e := 142) (fr := (0, 0)) _ _ false 1 b6837 1 [.int .i64 x6834.Irq, .int .i64 x6834.Priority] (.int .i64 x6834.Priority) rfl (by kernel_rfl) (by kernel_rfl) (by kernel_rfl) (M6843.blk 0 (b := b6837) (o := .cells ⟨[.int .i64 x6834.Irq, .int .i64 x6834.Priority]⟩ 142 (0, 0)) (by kernel_rfl))) ?_
    refine W_run 1 [(11, .int .i64 x6834.Priority), (12, .pointer (some ⟨b6841, 1, none⟩))] w6842 (by kernel_rfl) ?_
    refine W_val (.int .i64 x6835.Priority) w6842 (by kernel_rfl) (E_load (e := 142) (fr := (0, 0)) _ _ false 1 b6841 1 [.int .i64 x6835.Irq, .int .i64 x6835.Priority] (.int .i64 x6835.Priority) rfl (by kernel_rfl) (by kernel_rfl) (by kernel_rfl) (M6843.blk 1 (b := b6841) (o := .cells ⟨[.int .i64 x6835.Irq, .int .i64 x6835.Priority]⟩ 142 (0, 0)) (by kernel_rfl))) ?_
    refine W_run 1 [(14, .bool (x6834.Priority != x6835.Priority))] w6842 (by kernel_rfl) ?_
    refine W_nil ?_
    refine N_then ?_
    rcases gx_bif hm with ⟨hc6845, hm⟩ | ⟨hc6845, hm⟩
    · refine G_cond_t (b := (x6834.Priority != x6835.Priority)) hc6845 (by kernel_rfl) ?_
      refine G_seq ?_
      refine G_region ?_
      refine W_run 1 [(4, .bool false)] w6842 (by kernel_rfl) ?_
      refine W_nil ?_
      refine N_then ?_
      refine G_ret ?_
      refine N_then_ret ?_
      obtain rfl := Option.some.inj hm
      refine N_ret [.bool false] (RVs_cons (RV_tmp (by kernel_rfl)) RVs_nil) ?_
      exact ⟨rfl, M6843.pick [] (by kernel_rfl)⟩
    · refine G_cond_f (b := (x6834.Priority != x6835.Priority)) hc6845 (by kernel_rfl) ?_
      refine G_skip ?_
      refine N_then ?_
      refine G_seq ?_
      refine G_region ?_
      refine W_run 1 [(4, .bool true)] w6842 (by kernel_rfl) ?_
      refine W_nil ?_
      refine N_then ?_
      refine G_ret ?_
      obtain rfl := Option.some.inj hm
      refine N_ret [.bool true] (RVs_cons (RV_tmp (by kernel_rfl)) RVs_nil) ?_
      exact ⟨rfl, M6843.pick [] (by kernel_rfl)⟩
theorem c_l_eqWaiterS (w : World) (x6820 : List Waiter) (p6822 : Option Addr) (c6823 : Nat) (h6824 : rdS encWaiter w x6820 p6822 c6823) (x6825 : List Waiter) (p6827 : Option Addr) (c6828 : Nat) (h6829 : rdS encWaiter w x6825 p6827 c6828) {r : Bool} (hm : M.l_eqWaiterS x6820 x6825 = some r) :
    Calls Tryz.prog 213 #[.slice p6822 x6820.length c6823, .slice p6827 x6825.length c6828] w fun e w' => e = .returned (.bool r) ∧ Mem [] w w' [] := by
  unfold M.l_eqWaiterS at hm
  refine C_enter Tryz.func213 rfl (by kernel_rfl) ?_
  have M0 := Mem.refl [] w
  refine G_seq ?_
  refine G_region ?_
  refine W_run 1 [(0, .slice p6822 x6820.length c6823), (1, .slice p6827 x6825.length c6828)] w (by kernel_rfl) ?_
  refine W_nil ?_
  refine N_then ?_
  refine G_seq ?_
  refine G_seq ?_
  refine G_region ?_
  refine W_run 5 [(0, .slice p6822 x6820.length c6823), (1, .slice p6827 x6825.length c6828), (10, .bool ((x6820.length : Int) != (x6825.length : Int)))] w (by kernel_rfl) ?_
  refine W_nil ?_
  refine N_then ?_
  rcases gx_bif hm with ⟨hc6830, hm⟩ | ⟨hc6830, hm⟩
  · refine G_cond_t (b := ((x6820.length : Int) != (x6825.length : Int))) hc6830 (by kernel_rfl) ?_
    refine G_seq ?_
    refine G_region ?_
    refine W_run 1 [(4, .bool false)] w (by kernel_rfl) ?_
    refine W_nil ?_
    refine N_then ?_
    refine G_ret ?_
    refine N_then_ret ?_
    obtain rfl := Option.some.inj hm
    refine N_ret [.bool false] (RVs_cons (RV_tmp (by kernel_rfl)) RVs_nil) ?_
    exact ⟨rfl, M0.pick [] (by kernel_rfl)⟩
  · refine G_cond_f (b := ((x6820.length : Int) != (x6825.length : Int))) hc6830 (by kernel_rfl) ?_
    refine G_skip ?_
    refine N_then ?_
    refine G_seq ?_
    refine G_seq ?_
    refine G_region ?_
    refine W_run 1 [(0, .slice p6822 x6820.length c6823), (1, .slice p6827 x6825.length c6828), (5, .int .i64 0)] w (by kernel_rfl) ?_
    refine W_nil ?_
    refine N_then ?_
    obtain ⟨out6870, hw6871, hmo6872⟩ := gx_bind hm
    refine G_meet (fun a w' => ∃ (o6873 : Unit), out6870 = .inl o6873 ∧ Mem [] w w' [] ∧ Sat Tryz.f213.ntmps [] a) ?_ ?_
    · refine G_block ?_
      refine G_while (σ := Int) (ρ := (Unit) ⊕ (Bool)) (fun s6863 a w' => Mem [] w w' [] ∧ Sat Tryz.f213.ntmps [(0, .slice p6822 x6820.length c6823), (1, .slice p6827 x6825.length c6828), (5, .int .i64 s6863)] a) hw6871 (fun a ha => ⟨M0.pick [] (by kernel_rfl), ha.sub (by kernel_rfl)⟩) ?_
      clear hm
      intro s6863 x6864 hm hout6865 a6866 w6867 ⟨M6868, hS6869⟩
      refine G_use hS6869 ?_
      refine G_seq ?_
      refine G_seq ?_
      refine G_region ?_
      refine W_run 4 [(0, .slice p6822 x6820.length c6823), (1, .slice p6827 x6825.length c6828), (5, .int .i64 s6863), (14, .bool (decide (s6863 < (x6820.length : Int))))] w6867 (by kernel_rfl) ?_
      refine W_nil ?_
      refine N_then ?_
      rcases gx_bif hm with ⟨hc6874, hm⟩ | ⟨hc6874, hm⟩
      · refine G_cond_t (b := (decide (s6863 < (x6820.length : Int)))) hc6874 (by kernel_rfl) ?_
        refine G_skip ?_
        refine N_then ?_
        refine G_seq ?_
        refine G_block ?_
        refine G_seq ?_
        refine G_quiet (by kernel_rfl) (by kernel_rfl) M6868 ?_
        refine Z_runs [.slice p6822 x6820.length c6823, .int .i64 s6863] [(0, .slice p6822 x6820.length c6823), (1, .slice p6827 x6825.length c6828), (5, .int .i64 s6863), (17, .slice p6822 x6820.length c6823), (18, .int .i64 s6863)] (fun w_ => by kernel_rfl) (by kernel_rfl) ?_
        obtain ⟨y6875, hy6875, hm⟩ := gx_bind hm
        refine Z_val (elemP p6822 (s6863.toNat * 2)) (by kernel_rfl) (fun w_ M_ => (E_index (E := encWaiter) _ _ _ x6820.length c6823 .i64 s6863 2 (y := y6875) rfl (by kernel_rfl) (by kernel_rfl) (by kernel_rfl) (h6824.mem0 M_) rfl hy6875)) ?_
        refine Z_val (.agg #[.int .i64 y6875.Irq, .int .i64 y6875.Priority]) (by kernel_rfl) (fun w_ M_ => (E_loadE (E := encWaiter) _ _ true 2 s6863 0 (s6863.toNat * 2) y6875 (.agg #[.int .i64 y6875.Irq, .int .i64 y6875.Priority]) rfl (by kernel_rfl) (by kernel_rfl) (by kernel_rfl) (h6824.mem0 M_) hy6875 rfl)) ?_
        refine Z_runs [.slice p6827 x6825.length c6828, .int .i64 s6863] [(0, .slice p6822 x6820.length c6823), (1, .slice p6827 x6825.length c6828), (5, .int .i64 s6863), (20, .agg #[.int .i64 y6875.Irq, .int .i64 y6875.Priority]), (21, .slice p6827 x6825.length c6828), (22, .int .i64 s6863)] (fun w_ => by kernel_rfl) (by kernel_rfl) ?_
        obtain ⟨y6876, hy6876, hm⟩ := gx_bind hm
        refine Z_val (elemP p6827 (s6863.toNat * 2)) (by kernel_rfl) (fun w_ M_ => (E_index (E := encWaiter) _ _ _ x6825.length c6828 .i64 s6863 2 (y := y6876) rfl (by kernel_rfl) (by kernel_rfl) (by kernel_rfl) (h6829.mem0 M_) rfl hy6876)) ?_
        refine Z_val (.agg #[.int .i64 y6876.Irq, .int .i64 y6876.Priority]) (by kernel_rfl) (fun w_ M_ => (E_loadE (E := encWaiter) _ _ true 2 s6863 0 (s6863.toNat * 2) y6876 (.agg #[.int .i64 y6876.Irq, .int .i64 y6876.Priority]) rfl (by kernel_rfl) (by kernel_rfl) (by kernel_rfl) (h6829.mem0 M_) hy6876 rfl)) ?_
        obtain ⟨r6877, hr6877, hm⟩ := gx_bind hm
        refine Z_call 247 #[.agg #[.int .i64 y6875.Irq, .int .i64 y6875.Priority], .agg #[.int .i64 y6876.Irq, .int .i64 y6876.Priority]] (.bool r6877) (by kernel_rfl) (fun w_ => by kernel_rfl) (fun w_ M_ => (c_l_eqWaiter w_ y6875 y6876 hr6877).mono fun e w2_ h_ => ⟨h_.1, M_.call0 h_.2⟩) ?_
        refine Z_runs [.bool (!r6877)] [(0, .slice p6822 x6820.length c6823), (1, .slice p6827 x6825.length c6828), (5, .int .i64 s6863), (26, .bool (!r6877))] (fun w_ => by kernel_rfl) (by kernel_rfl) ?_
        refine Z_end fun w6881 M6882 => ?_
        refine N_then ?_
        rcases gx_bif hm with ⟨hc6883, hm⟩ | ⟨hc6883, hm⟩
        · refine G_cond_t (b := (!r6877)) hc6883 (by kernel_rfl) ?_
          refine G_seq ?_
          refine G_region ?_
          refine W_run 1 [(4, .bool false)] w6881 (by kernel_rfl) ?_
          refine W_nil ?_
          refine N_then ?_
          refine G_ret ?_
          refine N_block_ret ?_
          refine N_then_ret ?_
          refine N_then_ret ?_
          obtain rfl := Option.some.inj hm
          obtain rfl := hout6865 _ rfl
          have hm := hmo6872; simp only [Sum.elim_inr] at hm
          refine N_block_ret ?_
          refine N_meet_ret ?_
          refine N_then_ret ?_
          obtain rfl := Option.some.inj hm
          refine N_ret [.bool false] (RVs_cons (RV_tmp (by kernel_rfl)) RVs_nil) ?_
          exact ⟨rfl, M6882.pick [] (by kernel_rfl)⟩
        · refine G_cond_f (b := (!r6877)) hc6883 (by kernel_rfl) ?_
          refine G_skip ?_
          refine N_block ?_
          refine N_then ?_
          refine G_region ?_
          refine W_run 3 [(0, .slice p6822 x6820.length c6823), (1, .slice p6827 x6825.length c6828), (5, .int .i64 (w64 (s6863 + 1)))] w6881 (by kernel_rfl) ?_
          refine W_nil ?_
          obtain rfl := Option.some.inj hm
          exact N_loop fun a ha => ⟨_, rfl, M6882.pick [] (by kernel_rfl), ha.sub (by kernel_rfl)⟩
      · refine G_cond_f (b := (decide (s6863 < (x6820.length : Int)))) hc6874 (by kernel_rfl) ?_
        refine G_exit ?_
        refine N_then_exit ?_
        refine N_then_exit ?_
        refine N_block_eq ?_
        obtain rfl := Option.some.inj hm
        obtain rfl := hout6865 _ rfl
        exact N_meet fun a ha => ⟨_, rfl, M6868.pick [] (by kernel_rfl), ha.sub (by kernel_rfl)⟩
    · intro a6884 w6885 ⟨o6873, hout_, M6886, hS6887⟩
      refine N_use hS6887 ?_
      subst hout_
      have hm := hmo6872; simp only [Sum.elim_inl] at hm
      refine N_then ?_
      refine G_seq ?_
      refine G_region ?_
      refine W_run 1 [(4, .bool true)] w6885 (by kernel_rfl) ?_
      refine W_nil ?_
      refine N_then ?_
      refine G_ret ?_
      obtain rfl := Option.some.inj hm
      refine N_ret [.bool true] (RVs_cons (RV_tmp (by kernel_rfl)) RVs_nil) ?_
      exact ⟨rfl, M6886.pick [] (by kernel_rfl)⟩
theorem c_l_eqQueue (w : World) (x6720 : Queue) (p6722 : Option Addr) (c6723 : Nat) (h6724 : rdS encSlot w x6720.Slots p6722 c6723) (p6726 : Option Addr) (c6727 : Nat) (h6728 : rdS encWaiter w x6720.Waiting p6726 c6727) (x6729 : Queue) (p6731 : Option Addr) (c6732 : Nat) (h6733 : rdS encSlot w x6729.Slots p6731 c6732) (p6735 : Option Addr) (c6736 : Nat) (h6737 : rdS encWaiter w x6729.Waiting p6735 c6736) {r : Bool} (hm : M.l_eqQueue x6720 x6729 = some r) :
    Calls Tryz.prog 167 #[.agg #[.slice p6722 x6720.Slots.length c6723, .slice p6726 x6720.Waiting.length c6727], .agg #[.slice p6731 x6729.Slots.length c6732, .slice p6735 x6729.Waiting.length c6736]] w fun e w' => e = .returned (.bool r) ∧ Mem [] w w' [] := by
  unfold M.l_eqQueue at hm
  refine C_enter Tryz.func167 rfl (by kernel_rfl) ?_
  have M0 := Mem.refl [] w
  refine G_seq ?_
  refine G_region ?_
  refine W_new (fun b => .pointer (some ⟨b, 0, none⟩)) (.cells ⟨[.slice p6722 x6720.Slots.length c6723, .slice p6726 x6720.Waiting.length c6727]⟩ 85 (0, 0)) M0 rfl (by kernel_rfl) (by kernel_rfl) ?_
  intro b6739 w6740 M6741
  refine W_new (fun b => .pointer (some ⟨b, 0, none⟩)) (.cells ⟨[.slice p6731 x6729.Slots.length c6732, .slice p6735 x6729.Waiting.length c6736]⟩ 85 (0, 0)) M6741 rfl (by kernel_rfl) (by kernel_rfl) ?_
  intro b6743 w6744 M6745
  refine W_run 1 [(2, .pointer (some ⟨b6739, 0, none⟩)), (3, .pointer (some ⟨b6743, 0, none⟩))] w6744 (by kernel_rfl) ?_
  refine W_nil ?_
  refine N_then ?_
  refine G_seq ?_
  refine G_seq ?_
  refine G_region ?_
  refine W_run 1 [(2, .pointer (some ⟨b6739, 0, none⟩)), (3, .pointer (some ⟨b6743, 0, none⟩)), (5, .pointer (some ⟨b6739, 0, none⟩))] w6744 (by kernel_rfl) ?_
  refine W_val (.slice p6722 x6720.Slots.length c6723) w6744 (by kernel_rfl) (E_load (e := 85) (fr := (0, 0)) _ _ false 1 b6739 0 [.slice p6722 x6720.Slots.length c6723, .slice p6726 x6720.Waiting.length c6727] (.slice p6722 x6720.Slots.length c6723) rfl (by kernel_rfl) (by kernel_rfl) (by kernel_rfl) (M6745.blk 0 (b := b6739) (o := .cells ⟨[.slice p6722 x6720.Slots.length c6723, .slice p6726 x6720.Waiting.length c6727]⟩ 85 (0, 0)) (by kernel_rfl))) ?_
  refine W_run 1 [(2, .pointer (some ⟨b6739, 0, none⟩)), (3, .pointer (some ⟨b6743, 0, none⟩)), (6, .slice p6722 x6720.Slots.length c6723), (7, .pointer (some ⟨b6743, 0, none⟩))] w6744 (by kernel_rfl) ?_
  refine W_val (.slice p6731 x6729.Slots.length c6732) w6744 (by kernel_rfl) (E_load (e := 85) (fr := (0, 0)) _ _ false 1 b6743 0 [.slice p6731 x6729.Slots.length c6732, .slice p6735 x6729.Waiting.length c6736] (.slice p6731 x6729.Slots.length c6732) rfl (by kernel_rfl) (by kernel_rfl) (by kernel_rfl) (M6745.blk 1 (b := b6743) (o := .cells ⟨[.slice p6731 x6729.Slots.length c6732, .slice p6735 x6729.Waiting.length c6736]⟩ 85 (0, 0)) (by kernel_rfl))) ?_
  obtain ⟨r6815, hr6815, hm⟩ := gx_bind hm
  refine W_call 212 #[.slice p6722 x6720.Slots.length c6723, .slice p6731 x6729.Slots.length c6732] (by kernel_rfl) (by kernel_rfl) ?_
  refine (c_l_eqSlotS w6744 x6720.Slots p6722 c6723 (h6724.mem0 M6745) x6729.Slots p6731 c6732 (h6733.mem0 M6745) hr6815).mono ?_
  rintro e_ w6816 ⟨rfl, K6817⟩
  have M6818 := M6745.call0 K6817
  refine ⟨_, rfl, ?_⟩
  refine W_run 1 [(2, .pointer (some ⟨b6739, 0, none⟩)), (3, .pointer (some ⟨b6743, 0, none⟩)), (10, .bool (!r6815))] w6816 (by kernel_rfl) ?_
  refine W_nil ?_
  refine N_then ?_
  rcases gx_bif hm with ⟨hc6819, hm⟩ | ⟨hc6819, hm⟩
  · refine G_cond_t (b := (!r6815)) hc6819 (by kernel_rfl) ?_
    refine G_seq ?_
    refine G_region ?_
    refine W_run 1 [(4, .bool false)] w6816 (by kernel_rfl) ?_
    refine W_nil ?_
    refine N_then ?_
    refine G_ret ?_
    refine N_then_ret ?_
    obtain rfl := Option.some.inj hm
    refine N_ret [.bool false] (RVs_cons (RV_tmp (by kernel_rfl)) RVs_nil) ?_
    exact ⟨rfl, M6818.pick [] (by kernel_rfl)⟩
  · refine G_cond_f (b := (!r6815)) hc6819 (by kernel_rfl) ?_
    refine G_skip ?_
    refine N_then ?_
    refine G_seq ?_
    refine G_seq ?_
    refine G_region ?_
    refine W_run 1 [(3, .pointer (some ⟨b6743, 0, none⟩)), (11, .pointer (some ⟨b6739, 1, none⟩))] w6816 (by kernel_rfl) ?_
    refine W_val (.slice p6726 x6720.Waiting.length c6727) w6816 (by kernel_rfl) (E_load (e := 85) (fr := (0, 0)) _ _ false 1 b6739 1 [.slice p6722 x6720.Slots.length c6723, .slice p6726 x6720.Waiting.length c6727] (.slice p6726 x6720.Waiting.length c6727) rfl (by kernel_rfl) (by kernel_rfl) (by kernel_rfl) (M6818.blk 0 (b := b6739) (o := .cells ⟨[.slice p6722 x6720.Slots.length c6723, .slice p6726 x6720.Waiting.length c6727]⟩ 85 (0, 0)) (by kernel_rfl))) ?_
    refine W_run 1 [(12, .slice p6726 x6720.Waiting.length c6727), (13, .pointer (some ⟨b6743, 1, none⟩))] w6816 (by kernel_rfl) ?_
    refine W_val (.slice p6735 x6729.Waiting.length c6736) w6816 (by kernel_rfl) (E_load (e := 85) (fr := (0, 0)) _ _ false 1 b6743 1 [.slice p6731 x6729.Slots.length c6732, .slice p6735 x6729.Waiting.length c6736] (.slice p6735 x6729.Waiting.length c6736) rfl (by kernel_rfl) (by kernel_rfl) (by kernel_rfl) (M6818.blk 1 (b := b6743) (o := .cells ⟨[.slice p6731 x6729.Slots.length c6732, .slice p6735 x6729.Waiting.length c6736]⟩ 85 (0, 0)) (by kernel_rfl))) ?_
    obtain ⟨r6888, hr6888, hm⟩ := gx_bind hm
    refine W_call 213 #[.slice p6726 x6720.Waiting.length c6727, .slice p6735 x6729.Waiting.length c6736] (by kernel_rfl) (by kernel_rfl) ?_
    refine (c_l_eqWaiterS w6816 x6720.Waiting p6726 c6727 (h6728.mem0 M6818) x6729.Waiting p6735 c6736 (h6737.mem0 M6818) hr6888).mono ?_
    rintro e_ w6889 ⟨rfl, K6890⟩
    have M6891 := M6818.call0 K6890
    refine ⟨_, rfl, ?_⟩
    refine W_run 1 [(16, .bool (!r6888))] w6889 (by kernel_rfl) ?_
    refine W_nil ?_
    refine N_then ?_
    rcases gx_bif hm with ⟨hc6892, hm⟩ | ⟨hc6892, hm⟩
    · refine G_cond_t (b := (!r6888)) hc6892 (by kernel_rfl) ?_
      refine G_seq ?_
      refine G_region ?_
      refine W_run 1 [(4, .bool false)] w6889 (by kernel_rfl) ?_
      refine W_nil ?_
      refine N_then ?_
      refine G_ret ?_
      refine N_then_ret ?_
      obtain rfl := Option.some.inj hm
      refine N_ret [.bool false] (RVs_cons (RV_tmp (by kernel_rfl)) RVs_nil) ?_
      exact ⟨rfl, M6891.pick [] (by kernel_rfl)⟩
    · refine G_cond_f (b := (!r6888)) hc6892 (by kernel_rfl) ?_
      refine G_skip ?_
      refine N_then ?_
      refine G_seq ?_
      refine G_region ?_
      refine W_run 1 [(4, .bool true)] w6889 (by kernel_rfl) ?_
      refine W_nil ?_
      refine N_then ?_
      refine G_ret ?_
      obtain rfl := Option.some.inj hm
      refine N_ret [.bool true] (RVs_cons (RV_tmp (by kernel_rfl)) RVs_nil) ?_
      exact ⟨rfl, M6891.pick [] (by kernel_rfl)⟩
theorem c_l_eqInterface (w : World) (x6636 : Interface) (p6638 : Option Addr) (c6639 : Nat) (h6640 : rdS Gx.encI w x6636.Stack p6638 c6639) (p6642 : Option Addr) (c6643 : Nat) (h6644 : rdS encSlot w x6636.Queue.Slots p6642 c6643) (p6646 : Option Addr) (c6647 : Nat) (h6648 : rdS encWaiter w x6636.Queue.Waiting p6646 c6647) (x6649 : Interface) (p6651 : Option Addr) (c6652 : Nat) (h6653 : rdS Gx.encI w x6649.Stack p6651 c6652) (p6655 : Option Addr) (c6656 : Nat) (h6657 : rdS encSlot w x6649.Queue.Slots p6655 c6656) (p6659 : Option Addr) (c6660 : Nat) (h6661 : rdS encWaiter w x6649.Queue.Waiting p6659 c6660) {r : Bool} (hm : M.l_eqInterface x6636 x6649 = some r) :
    Calls Tryz.prog 123 #[.agg #[.int .i64 x6636.Mask, .slice p6638 x6636.Stack.length c6639, .slice p6642 x6636.Queue.Slots.length c6643, .slice p6646 x6636.Queue.Waiting.length c6647], .agg #[.int .i64 x6649.Mask, .slice p6651 x6649.Stack.length c6652, .slice p6655 x6649.Queue.Slots.length c6656, .slice p6659 x6649.Queue.Waiting.length c6660]] w fun e w' => e = .returned (.bool r) ∧ Mem [] w w' [] := by
  unfold M.l_eqInterface at hm
  refine C_enter Tryz.func123 rfl (by kernel_rfl) ?_
  have M0 := Mem.refl [] w
  refine G_seq ?_
  refine G_region ?_
  refine W_new (fun b => .pointer (some ⟨b, 0, none⟩)) (.cells ⟨[.int .i64 x6636.Mask, .slice p6638 x6636.Stack.length c6639, .slice p6642 x6636.Queue.Slots.length c6643, .slice p6646 x6636.Queue.Waiting.length c6647]⟩ 87 (0, 0)) M0 rfl (by kernel_rfl) (by kernel_rfl) ?_
  intro b6663 w6664 M6665
  refine W_new (fun b => .pointer (some ⟨b, 0, none⟩)) (.cells ⟨[.int .i64 x6649.Mask, .slice p6651 x6649.Stack.length c6652, .slice p6655 x6649.Queue.Slots.length c6656, .slice p6659 x6649.Queue.Waiting.length c6660]⟩ 87 (0, 0)) M6665 rfl (by kernel_rfl) (by kernel_rfl) ?_
  intro b6667 w6668 M6669
  refine W_run 1 [(2, .pointer (some ⟨b6663, 0, none⟩)), (3, .pointer (some ⟨b6667, 0, none⟩))] w6668 (by kernel_rfl) ?_
  refine W_nil ?_
  refine N_then ?_
  refine G_seq ?_
  refine G_seq ?_
  refine G_region ?_
  refine W_run 1 [(2, .pointer (some ⟨b6663, 0, none⟩)), (3, .pointer (some ⟨b6667, 0, none⟩)), (5, .pointer (some ⟨b6663, 0, none⟩))] w6668 (by kernel_rfl) ?_
  refine W_val (.int .i64 x6636.Mask) w6668 (by kernel_rfl) (E_load (e := 87) (fr := (0, 0)) _ _ false 1 b6663 0 [.int .i64 x6636.Mask, .slice p6638 x6636.Stack.length c6639, .slice p6642 x6636.Queue.Slots.length c6643, .slice p6646 x6636.Queue.Waiting.length c6647] (.int .i64 x6636.Mask) rfl (by kernel_rfl) (by kernel_rfl) (by kernel_rfl) (M6669.blk 0 (b := b6663) (o := .cells ⟨[.int .i64 x6636.Mask, .slice p6638 x6636.Stack.length c6639, .slice p6642 x6636.Queue.Slots.length c6643, .slice p6646 x6636.Queue.Waiting.length c6647]⟩ 87 (0, 0)) (by kernel_rfl))) ?_
  refine W_run 1 [(2, .pointer (some ⟨b6663, 0, none⟩)), (3, .pointer (some ⟨b6667, 0, none⟩)), (6, .int .i64 x6636.Mask), (7, .pointer (some ⟨b6667, 0, none⟩))] w6668 (by kernel_rfl) ?_
  refine W_val (.int .i64 x6649.Mask) w6668 (by kernel_rfl) (E_load (e := 87) (fr := (0, 0)) _ _ false 1 b6667 0 [.int .i64 x6649.Mask, .slice p6651 x6649.Stack.length c6652, .slice p6655 x6649.Queue.Slots.length c6656, .slice p6659 x6649.Queue.Waiting.length c6660] (.int .i64 x6649.Mask) rfl (by kernel_rfl) (by kernel_rfl) (by kernel_rfl) (M6669.blk 1 (b := b6667) (o := .cells ⟨[.int .i64 x6649.Mask, .slice p6651 x6649.Stack.length c6652, .slice p6655 x6649.Queue.Slots.length c6656, .slice p6659 x6649.Queue.Waiting.length c6660]⟩ 87 (0, 0)) (by kernel_rfl))) ?_
  refine W_run 1 [(2, .pointer (some ⟨b6663, 0, none⟩)), (3, .pointer (some ⟨b6667, 0, none⟩)), (9, .bool (x6636.Mask != x6649.Mask))] w6668 (by kernel_rfl) ?_
  refine W_nil ?_
  refine N_then ?_
  rcases gx_bif hm with ⟨hc6670, hm⟩ | ⟨hc6670, hm⟩
  · refine G_cond_t (b := (x6636.Mask != x6649.Mask)) hc6670 (by kernel_rfl) ?_
    refine G_seq ?_
    refine G_region ?_
    refine W_run 1 [(4, .bool false)] w6668 (by kernel_rfl) ?_
    refine W_nil ?_
    refine N_then ?_
    refine G_ret ?_
    refine N_then_ret ?_
    obtain rfl := Option.some.inj hm
    refine N_ret [.bool false] (RVs_cons (RV_tmp (by kernel_rfl)) RVs_nil) ?_
    exact ⟨rfl, M6669.pick [] (by kernel_rfl)⟩
  · refine G_cond_f (b := (x6636.Mask != x6649.Mask)) hc6670 (by kernel_rfl) ?_
    refine G_skip ?_
    refine N_then ?_
    refine G_seq ?_
    refine G_seq ?_
    refine G_region ?_
    refine W_run 1 [(2, .pointer (some ⟨b6663, 0, none⟩)), (3, .pointer (some ⟨b6667, 0, none⟩)), (10, .pointer (some ⟨b6663, 1, none⟩))] w6668 (by kernel_rfl) ?_
    refine W_val (.slice p6638 x6636.Stack.length c6639) w6668 (by kernel_rfl) (E_load (e := 87) (fr := (0, 0)) _ _ false 1 b6663 1 [.int .i64 x6636.Mask, .slice p6638 x6636.Stack.length c6639, .slice p6642 x6636.Queue.Slots.length c6643, .slice p6646 x6636.Queue.Waiting.length c6647] (.slice p6638 x6636.Stack.length c6639) rfl (by kernel_rfl) (by kernel_rfl) (by kernel_rfl) (M6669.blk 0 (b := b6663) (o := .cells ⟨[.int .i64 x6636.Mask, .slice p6638 x6636.Stack.length c6639, .slice p6642 x6636.Queue.Slots.length c6643, .slice p6646 x6636.Queue.Waiting.length c6647]⟩ 87 (0, 0)) (by kernel_rfl))) ?_
    refine W_run 1 [(2, .pointer (some ⟨b6663, 0, none⟩)), (3, .pointer (some ⟨b6667, 0, none⟩)), (11, .slice p6638 x6636.Stack.length c6639), (12, .pointer (some ⟨b6667, 1, none⟩))] w6668 (by kernel_rfl) ?_
    refine W_val (.slice p6651 x6649.Stack.length c6652) w6668 (by kernel_rfl) (E_load (e := 87) (fr := (0, 0)) _ _ false 1 b6667 1 [.int .i64 x6649.Mask, .slice p6651 x6649.Stack.length c6652, .slice p6655 x6649.Queue.Slots.length c6656, .slice p6659 x6649.Queue.Waiting.length c6660] (.slice p6651 x6649.Stack.length c6652) rfl (by kernel_rfl) (by kernel_rfl) (by kernel_rfl) (M6669.blk 1 (b := b6667) (o := .cells ⟨[.int .i64 x6649.Mask, .slice p6651 x6649.Stack.length c6652, .slice p6655 x6649.Queue.Slots.length c6656, .slice p6659 x6649.Queue.Waiting.length c6660]⟩ 87 (0, 0)) (by kernel_rfl))) ?_
    obtain ⟨r6715, hr6715, hm⟩ := gx_bind hm
    refine W_call 19 #[.slice p6638 x6636.Stack.length c6639, .slice p6651 x6649.Stack.length c6652] (by kernel_rfl) (by kernel_rfl) ?_
    refine (c_l_eqIntS w6668 x6636.Stack p6638 c6639 (h6640.mem0 M6669) x6649.Stack p6651 c6652 (h6653.mem0 M6669) hr6715).mono ?_
    rintro e_ w6716 ⟨rfl, K6717⟩
    have M6718 := M6669.call0 K6717
    refine ⟨_, rfl, ?_⟩
    refine W_run 1 [(2, .pointer (some ⟨b6663, 0, none⟩)), (3, .pointer (some ⟨b6667, 0, none⟩)), (15, .bool (!r6715))] w6716 (by kernel_rfl) ?_
    refine W_nil ?_
    refine N_then ?_
    rcases gx_bif hm with ⟨hc6719, hm⟩ | ⟨hc6719, hm⟩
    · refine G_cond_t (b := (!r6715)) hc6719 (by kernel_rfl) ?_
      refine G_seq ?_
      refine G_region ?_
      refine W_run 1 [(4, .bool false)] w6716 (by kernel_rfl) ?_
      refine W_nil ?_
      refine N_then ?_
      refine G_ret ?_
      refine N_then_ret ?_
      obtain rfl := Option.some.inj hm
      refine N_ret [.bool false] (RVs_cons (RV_tmp (by kernel_rfl)) RVs_nil) ?_
      exact ⟨rfl, M6718.pick [] (by kernel_rfl)⟩
    · refine G_cond_f (b := (!r6715)) hc6719 (by kernel_rfl) ?_
      refine G_skip ?_
      refine N_then ?_
      refine G_seq ?_
      refine G_seq ?_
      refine G_region ?_
      refine W_run 1 [(3, .pointer (some ⟨b6667, 0, none⟩)), (16, .pointer (some ⟨b6663, 2, none⟩))] w6716 (by kernel_rfl) ?_
      refine W_val (.agg #[.slice p6642 x6636.Queue.Slots.length c6643, .slice p6646 x6636.Queue.Waiting.length c6647]) w6716 (by kernel_rfl) (E_load (e := 87) (fr := (0, 0)) _ _ true 2 b6663 2 [.int .i64 x6636.Mask, .slice p6638 x6636.Stack.length c6639, .slice p6642 x6636.Queue.Slots.length c6643, .slice p6646 x6636.Queue.Waiting.length c6647] (.agg #[.slice p6642 x6636.Queue.Slots.length c6643, .slice p6646 x6636.Queue.Waiting.length c6647]) rfl (by kernel_rfl) (by kernel_rfl) (by kernel_rfl) (M6718.blk 0 (b := b6663) (o := .cells ⟨[.int .i64 x6636.Mask, .slice p6638 x6636.Stack.length c6639, .slice p6642 x6636.Queue.Slots.length c6643, .slice p6646 x6636.Queue.Waiting.length c6647]⟩ 87 (0, 0)) (by kernel_rfl))) ?_
      refine W_run 1 [(17, .agg #[.slice p6642 x6636.Queue.Slots.length c6643, .slice p6646 x6636.Queue.Waiting.length c6647]), (18, .pointer (some ⟨b6667, 2, none⟩))] w6716 (by kernel_rfl) ?_
      refine W_val (.agg #[.slice p6655 x6649.Queue.Slots.length c6656, .slice p6659 x6649.Queue.Waiting.length c6660]) w6716 (by kernel_rfl) (E_load (e := 87) (fr := (0, 0)) _ _ true 2 b6667 2 [.int .i64 x6649.Mask, .slice p6651 x6649.Stack.length c6652, .slice p6655 x6649.Queue.Slots.length c6656, .slice p6659 x6649.Queue.Waiting.length c6660] (.agg #[.slice p6655 x6649.Queue.Slots.length c6656, .slice p6659 x6649.Queue.Waiting.length c6660]) rfl (by kernel_rfl) (by kernel_rfl) (by kernel_rfl) (M6718.blk 1 (b := b6667) (o := .cells ⟨[.int .i64 x6649.Mask, .slice p6651 x6649.Stack.length c6652, .slice p6655 x6649.Queue.Slots.length c6656, .slice p6659 x6649.Queue.Waiting.length c6660]⟩ 87 (0, 0)) (by kernel_rfl))) ?_
      obtain ⟨r6893, hr6893, hm⟩ := gx_bind hm
      refine W_call 167 #[.agg #[.slice p6642 x6636.Queue.Slots.length c6643, .slice p6646 x6636.Queue.Waiting.length c6647], .agg #[.slice p6655 x6649.Queue.Slots.length c6656, .slice p6659 x6649.Queue.Waiting.length c6660]] (by kernel_rfl) (by kernel_rfl) ?_
      refine (c_l_eqQueue w6716 (⟨x6636.Queue.Slots, x6636.Queue.Waiting⟩ : Queue) p6642 c6643 (h6644.mem0 M6718) p6646 c6647 (h6648.mem0 M6718) (⟨x6649.Queue.Slots, x6649.Queue.Waiting⟩ : Queue) p6655 c6656 (h6657.mem0 M6718) p6659 c6660 (h6661.mem0 M6718) hr6893).mono ?_
      rintro e_ w6894 ⟨rfl, K6895⟩
      have M6896 := M6718.call0 K6895
      refine ⟨_, rfl, ?_⟩
      refine W_run 1 [(21, .bool (!r6893))] w6894 (by kernel_rfl) ?_
      refine W_nil ?_
      refine N_then ?_
      rcases gx_bif hm with ⟨hc6897, hm⟩ | ⟨hc6897, hm⟩
      · refine G_cond_t (b := (!r6893)) hc6897 (by kernel_rfl) ?_
        refine G_seq ?_
        refine G_region ?_
        refine W_run 1 [(4, .bool false)] w6894 (by kernel_rfl) ?_
        refine W_nil ?_
        refine N_then ?_
        refine G_ret ?_
        refine N_then_ret ?_
        obtain rfl := Option.some.inj hm
        refine N_ret [.bool false] (RVs_cons (RV_tmp (by kernel_rfl)) RVs_nil) ?_
        exact ⟨rfl, M6896.pick [] (by kernel_rfl)⟩
      · refine G_cond_f (b := (!r6893)) hc6897 (by kernel_rfl) ?_
        refine G_skip ?_
        refine N_then ?_
        refine G_seq ?_
        refine G_region ?_
        refine W_run 1 [(4, .bool true)] w6894 (by kernel_rfl) ?_
        refine W_nil ?_
        refine N_then ?_
        refine G_ret ?_
        obtain rfl := Option.some.inj hm
        refine N_ret [.bool true] (RVs_cons (RV_tmp (by kernel_rfl)) RVs_nil) ?_
        exact ⟨rfl, M6896.pick [] (by kernel_rfl)⟩
theorem c_l_eqInterfaceS (w : World) (x6604 : List Interface) (p6606 : Option Addr) (c6607 : Nat) (h6608 : rdD deepInterface w x6604 p6606 c6607) (x6609 : List Interface) (p6611 : Option Addr) (c6612 : Nat) (h6613 : rdD deepInterface w x6609 p6611 c6612) {r : Bool} (hm : M.l_eqInterfaceS x6604 x6609 = some r) :
    Calls Tryz.prog 63 #[.slice p6606 x6604.length c6607, .slice p6611 x6609.length c6612] w fun e w' => e = .returned (.bool r) ∧ Mem [] w w' [] := by
  unfold M.l_eqInterfaceS at hm
  refine C_enter Tryz.func63 rfl (by kernel_rfl) ?_
  have M0 := Mem.refl [] w
  refine G_seq ?_
  refine G_region ?_
  refine W_run 1 [(0, .slice p6606 x6604.length c6607), (1, .slice p6611 x6609.length c6612)] w (by kernel_rfl) ?_
  refine W_nil ?_
  refine N_then ?_
  refine G_seq ?_
  refine G_seq ?_
  refine G_region ?_
  refine W_run 5 [(0, .slice p6606 x6604.length c6607), (1, .slice p6611 x6609.length c6612), (10, .bool ((x6604.length : Int) != (x6609.length : Int)))] w (by kernel_rfl) ?_
  refine W_nil ?_
  refine N_then ?_
  rcases gx_bif hm with ⟨hc6614, hm⟩ | ⟨hc6614, hm⟩
  · refine G_cond_t (b := ((x6604.length : Int) != (x6609.length : Int))) hc6614 (by kernel_rfl) ?_
    refine G_seq ?_
    refine G_region ?_
    refine W_run 1 [(4, .bool false)] w (by kernel_rfl) ?_
    refine W_nil ?_
    refine N_then ?_
    refine G_ret ?_
    refine N_then_ret ?_
    obtain rfl := Option.some.inj hm
    refine N_ret [.bool false] (RVs_cons (RV_tmp (by kernel_rfl)) RVs_nil) ?_
    exact ⟨rfl, M0.pick [] (by kernel_rfl)⟩
  · refine G_cond_f (b := ((x6604.length : Int) != (x6609.length : Int))) hc6614 (by kernel_rfl) ?_
    refine G_skip ?_
    refine N_then ?_
    refine G_seq ?_
    refine G_seq ?_
    refine G_region ?_
    refine W_run 1 [(0, .slice p6606 x6604.length c6607), (1, .slice p6611 x6609.length c6612), (5, .int .i64 0)] w (by kernel_rfl) ?_
    refine W_nil ?_
    refine N_then ?_
    obtain ⟨out6940, hw6941, hmo6942⟩ := gx_bind hm
    refine G_meet (fun a w' => ∃ (o6943 : Unit), out6940 = .inl o6943 ∧ Mem [] w w' [] ∧ Sat Tryz.f63.ntmps [] a) ?_ ?_
    · refine G_block ?_
      refine G_while (σ := Int) (ρ := (Unit) ⊕ (Bool)) (fun s6933 a w' => Mem [] w w' [] ∧ Sat Tryz.f63.ntmps [(0, .slice p6606 x6604.length c6607), (1, .slice p6611 x6609.length c6612), (5, .int .i64 s6933)] a) hw6941 (fun a ha => ⟨M0.pick [] (by kernel_rfl), ha.sub (by kernel_rfl)⟩) ?_
      clear hm
      intro s6933 x6934 hm hout6935 a6936 w6937 ⟨M6938, hS6939⟩
      refine G_use hS6939 ?_
      refine G_seq ?_
      refine G_seq ?_
      refine G_region ?_
      refine W_run 4 [(0, .slice p6606 x6604.length c6607), (1, .slice p6611 x6609.length c6612), (5, .int .i64 s6933), (14, .bool (decide (s6933 < (x6604.length : Int))))] w6937 (by kernel_rfl) ?_
      refine W_nil ?_
      refine N_then ?_
      rcases gx_bif hm with ⟨hc6944, hm⟩ | ⟨hc6944, hm⟩
      · refine G_cond_t (b := (decide (s6933 < (x6604.length : Int)))) hc6944 (by kernel_rfl) ?_
        refine G_skip ?_
        refine N_then ?_
        refine G_seq ?_
        refine G_block ?_
        refine G_seq ?_
        refine G_quiet (by kernel_rfl) (by kernel_rfl) M6938 ?_
        refine Z_runs [.slice p6606 x6604.length c6607, .int .i64 s6933] [(0, .slice p6606 x6604.length c6607), (1, .slice p6611 x6609.length c6612), (5, .int .i64 s6933), (17, .slice p6606 x6604.length c6607), (18, .int .i64 s6933)] (fun w_ => by kernel_rfl) (by kernel_rfl) ?_
        obtain ⟨y6945, hy6945, hm⟩ := gx_bind hm
        obtain ⟨zs6946, hz6947, hr6948, hi6949⟩ := id h6608
        obtain ⟨g6950, hg6951⟩ := gxIdx_fst hz6947 hy6945
        refine Z_val (elemP p6606 (s6933.toNat * 4)) (by kernel_rfl) (fun w_ M_ => (E_index (E := deepInterface.E) _ _ _ x6604.length c6607 .i64 s6933 4 (y := (y6945, g6950)) rfl (by kernel_rfl) (by kernel_rfl) (by kernel_rfl) (hr6948.mem0 M_) (len_fst hz6947) hg6951)) ?_
        refine Z_val (.agg #[.int .i64 y6945.Mask, .slice ((g6950 0).1) y6945.Stack.length ((g6950 0).2), .slice ((g6950 1).1) y6945.Queue.Slots.length ((g6950 1).2), .slice ((g6950 2).1) y6945.Queue.Waiting.length ((g6950 2).2)]) (by kernel_rfl) (fun w_ M_ => (E_loadE (E := deepInterface.E) _ _ true 4 s6933 0 (s6933.toNat * 4) (y6945, g6950) (.agg #[.int .i64 y6945.Mask, .slice ((g6950 0).1) y6945.Stack.length ((g6950 0).2), .slice ((g6950 1).1) y6945.Queue.Slots.length ((g6950 1).2), .slice ((g6950 2).1) y6945.Queue.Waiting.length ((g6950 2).2)]) rfl (by kernel_rfl) (by kernel_rfl) (by kernel_rfl) (hr6948.mem0 M_) hg6951 rfl)) ?_
        refine Z_runs [.slice p6611 x6609.length c6612, .int .i64 s6933] [(0, .slice p6606 x6604.length c6607), (1, .slice p6611 x6609.length c6612), (5, .int .i64 s6933), (20, .agg #[.int .i64 y6945.Mask, .slice ((g6950 0).1) y6945.Stack.length ((g6950 0).2), .slice ((g6950 1).1) y6945.Queue.Slots.length ((g6950 1).2), .slice ((g6950 2).1) y6945.Queue.Waiting.length ((g6950 2).2)]), (21, .slice p6611 x6609.length c6612), (22, .int .i64 s6933)] (fun w_ => by kernel_rfl) (by kernel_rfl) ?_
        obtain ⟨y6955, hy6955, hm⟩ := gx_bind hm
        obtain ⟨zs6956, hz6957, hr6958, hi6959⟩ := id h6613
        obtain ⟨g6960, hg6961⟩ := gxIdx_fst hz6957 hy6955
        refine Z_val (elemP p6611 (s6933.toNat * 4)) (by kernel_rfl) (fun w_ M_ => (E_index (E := deepInterface.E) _ _ _ x6609.length c6612 .i64 s6933 4 (y := (y6955, g6960)) rfl (by kernel_rfl) (by kernel_rfl) (by kernel_rfl) (hr6958.mem0 M_) (len_fst hz6957) hg6961)) ?_
        refine Z_val (.agg #[.int .i64 y6955.Mask, .slice ((g6960 0).1) y6955.Stack.length ((g6960 0).2), .slice ((g6960 1).1) y6955.Queue.Slots.length ((g6960 1).2), .slice ((g6960 2).1) y6955.Queue.Waiting.length ((g6960 2).2)]) (by kernel_rfl) (fun w_ M_ => (E_loadE (E := deepInterface.E) _ _ true 4 s6933 0 (s6933.toNat * 4) (y6955, g6960) (.agg #[.int .i64 y6955.Mask, .slice ((g6960 0).1) y6955.Stack.length ((g6960 0).2), .slice ((g6960 1).1) y6955.Queue.Slots.length ((g6960 1).2), .slice ((g6960 2).1) y6955.Queue.Waiting.length ((g6960 2).2)]) rfl (by kernel_rfl) (by kernel_rfl) (by kernel_rfl) (hr6958.mem0 M_) hg6961 rfl)) ?_
        obtain ⟨r6965, hr6965, hm⟩ := gx_bind hm
        refine Z_call 123 #[.agg #[.int .i64 y6945.Mask, .slice ((g6950 0).1) y6945.Stack.length ((g6950 0).2), .slice ((g6950 1).1) y6945.Queue.Slots.length ((g6950 1).2), .slice ((g6950 2).1) y6945.Queue.Waiting.length ((g6950 2).2)], .agg #[.int .i64 y6955.Mask, .slice ((g6960 0).1) y6955.Stack.length ((g6960 0).2), .slice ((g6960 1).1) y6955.Queue.Slots.length ((g6960 1).2), .slice ((g6960 2).1) y6955.Queue.Waiting.length ((g6960 2).2)]] (.bool r6965) (by kernel_rfl) (fun w_ => by kernel_rfl) (fun w_ M_ => (c_l_eqInterface w_ (⟨y6945.Mask, y6945.Stack, (⟨y6945.Queue.Slots, y6945.Queue.Waiting⟩ : Queue)⟩ : Interface) ((g6950 0).1) ((g6950 0).2) ((hi6949.mem0 M_).at_ hg6951 0 ⟨Int, Gx.encI, y6945.Stack, (g6950 0).1, (g6950 0).2⟩ (by kernel_rfl)) ((g6950 1).1) ((g6950 1).2) ((hi6949.mem0 M_).at_ hg6951 1 ⟨Slot, encSlot, y6945.Queue.Slots, (g6950 1).1, (g6950 1).2⟩ (by kernel_rfl)) ((g6950 2).1) ((g6950 2).2) ((hi6949.mem0 M_).at_ hg6951 2 ⟨Waiter, encWaiter, y6945.Queue.Waiting, (g6950 2).1, (g6950 2).2⟩ (by kernel_rfl)) (⟨y6955.Mask, y6955.Stack, (⟨y6955.Queue.Slots, y6955.Queue.Waiting⟩ : Queue)⟩ : Interface) ((g6960 0).1) ((g6960 0).2) ((hi6959.mem0 M_).at_ hg6961 0 ⟨Int, Gx.encI, y6955.Stack, (g6960 0).1, (g6960 0).2⟩ (by kernel_rfl)) ((g6960 1).1) ((g6960 1).2) ((hi6959.mem0 M_).at_ hg6961 1 ⟨Slot, encSlot, y6955.Queue.Slots, (g6960 1).1, (g6960 1).2⟩ (by kernel_rfl)) ((g6960 2).1) ((g6960 2).2) ((hi6959.mem0 M_).at_ hg6961 2 ⟨Waiter, encWaiter, y6955.Queue.Waiting, (g6960 2).1, (g6960 2).2⟩ (by kernel_rfl)) hr6965).mono fun e w2_ h_ => ⟨h_.1, M_.call0 h_.2⟩) ?_
        refine Z_runs [.bool (!r6965)] [(0, .slice p6606 x6604.length c6607), (1, .slice p6611 x6609.length c6612), (5, .int .i64 s6933), (26, .bool (!r6965))] (fun w_ => by kernel_rfl) (by kernel_rfl) ?_
        refine Z_end fun w6969 M6970 => ?_
        refine N_then ?_
        rcases gx_bif hm with ⟨hc6971, hm⟩ | ⟨hc6971, hm⟩
        · refine G_cond_t (b := (!r6965)) hc6971 (by kernel_rfl) ?_
          refine G_seq ?_
          refine G_region ?_
          refine W_run 1 [(4, .bool false)] w6969 (by kernel_rfl) ?_
          refine W_nil ?_
          refine N_then ?_
          refine G_ret ?_
          refine N_block_ret ?_
          refine N_then_ret ?_
          refine N_then_ret ?_
          obtain rfl := Option.some.inj hm
          obtain rfl := hout6935 _ rfl
          have hm := hmo6942; simp only [Sum.elim_inr] at hm
          refine N_block_ret ?_
          refine N_meet_ret ?_
          refine N_then_ret ?_
          obtain rfl := Option.some.inj hm
          refine N_ret [.bool false] (RVs_cons (RV_tmp (by kernel_rfl)) RVs_nil) ?_
          exact ⟨rfl, M6970.pick [] (by kernel_rfl)⟩
        · refine G_cond_f (b := (!r6965)) hc6971 (by kernel_rfl) ?_
          refine G_skip ?_
          refine N_block ?_
          refine N_then ?_
          refine G_region ?_
          refine W_run 3 [(0, .slice p6606 x6604.length c6607), (1, .slice p6611 x6609.length c6612), (5, .int .i64 (w64 (s6933 + 1)))] w6969 (by kernel_rfl) ?_
          refine W_nil ?_
          obtain rfl := Option.some.inj hm
          exact N_loop fun a ha => ⟨_, rfl, M6970.pick [] (by kernel_rfl), ha.sub (by kernel_rfl)⟩
      · refine G_cond_f (b := (decide (s6933 < (x6604.length : Int)))) hc6944 (by kernel_rfl) ?_
        refine G_exit ?_
        refine N_then_exit ?_
        refine N_then_exit ?_
        refine N_block_eq ?_
        obtain rfl := Option.some.inj hm
        obtain rfl := hout6935 _ rfl
        exact N_meet fun a ha => ⟨_, rfl, M6938.pick [] (by kernel_rfl), ha.sub (by kernel_rfl)⟩
    · intro a6972 w6973 ⟨o6943, hout_, M6974, hS6975⟩
      refine N_use hS6975 ?_
      subst hout_
      have hm := hmo6942; simp only [Sum.elim_inl] at hm
      refine N_then ?_
      refine G_seq ?_
      refine G_region ?_
      refine W_run 1 [(4, .bool true)] w6973 (by kernel_rfl) ?_
      refine W_nil ?_
      refine N_then ?_
      refine G_ret ?_
      obtain rfl := Option.some.inj hm
      refine N_ret [.bool true] (RVs_cons (RV_tmp (by kernel_rfl)) RVs_nil) ?_
      exact ⟨rfl, M6974.pick [] (by kernel_rfl)⟩
theorem c_l_eqMachine (w : World) (x6435 : Machine) (p6437 : Option Addr) (c6438 : Nat) (h6439 : rdS encRoute w x6435.Routes p6437 c6438) (p6441 : Option Addr) (c6442 : Nat) (h6443 : rdS Gx.encB w x6435.Enabled p6441 c6442) (p6445 : Option Addr) (c6446 : Nat) (h6447 : rdS Gx.encB w x6435.Raised p6445 c6446) (p6449 : Option Addr) (c6450 : Nat) (h6451 : rdD deepInterface w x6435.Cpus p6449 c6450) (x6452 : Machine) (p6454 : Option Addr) (c6455 : Nat) (h6456 : rdS encRoute w x6452.Routes p6454 c6455) (p6458 : Option Addr) (c6459 : Nat) (h6460 : rdS Gx.encB w x6452.Enabled p6458 c6459) (p6462 : Option Addr) (c6463 : Nat) (h6464 : rdS Gx.encB w x6452.Raised p6462 c6463) (p6466 : Option Addr) (c6467 : Nat) (h6468 : rdD deepInterface w x6452.Cpus p6466 c6467) {r : Bool} (hm : M.l_eqMachine x6435 x6452 = some r) :
    Calls Tryz.prog 16 #[.agg #[.slice p6437 x6435.Routes.length c6438, .slice p6441 x6435.Enabled.length c6442, .slice p6445 x6435.Raised.length c6446, .slice p6449 x6435.Cpus.length c6450], .agg #[.slice p6454 x6452.Routes.length c6455, .slice p6458 x6452.Enabled.length c6459, .slice p6462 x6452.Raised.length c6463, .slice p6466 x6452.Cpus.length c6467]] w fun e w' => e = .returned (.bool r) ∧ Mem [] w w' [] := by
  unfold M.l_eqMachine at hm
  refine C_enter Tryz.func16 rfl (by kernel_rfl) ?_
  have M0 := Mem.refl [] w
  refine G_seq ?_
  refine G_region ?_
  refine W_new (fun b => .pointer (some ⟨b, 0, none⟩)) (.cells ⟨[.slice p6437 x6435.Routes.length c6438, .slice p6441 x6435.Enabled.length c6442, .slice p6445 x6435.Raised.length c6446, .slice p6449 x6435.Cpus.length c6450]⟩ 32 (0, 0)) M0 rfl (by kernel_rfl) (by kernel_rfl) ?_
  intro b6470 w6471 M6472
  refine W_new (fun b => .pointer (some ⟨b, 0, none⟩)) (.cells ⟨[.slice p6454 x6452.Routes.length c6455, .slice p6458 x6452.Enabled.length c6459, .slice p6462 x6452.Raised.length c6463, .slice p6466 x6452.Cpus.length c6467]⟩ 32 (0, 0)) M6472 rfl (by kernel_rfl) (by kernel_rfl) ?_
  intro b6474 w6475 M6476
  refine W_run 1 [(2, .pointer (some ⟨b6470, 0, none⟩)), (3, .pointer (some ⟨b6474, 0, none⟩))] w6475 (by kernel_rfl) ?_
  refine W_nil ?_
  refine N_then ?_
  refine G_seq ?_
  refine G_seq ?_
  refine G_region ?_
  refine W_run 1 [(2, .pointer (some ⟨b6470, 0, none⟩)), (3, .pointer (some ⟨b6474, 0, none⟩)), (5, .pointer (some ⟨b6470, 0, none⟩))] w6475 (by kernel_rfl) ?_
  refine W_val (.slice p6437 x6435.Routes.length c6438) w6475 (by kernel_rfl) (E_load (e := 32) (fr := (0, 0)) _ _ false 1 b6470 0 [.slice p6437 x6435.Routes.length c6438, .slice p6441 x6435.Enabled.length c6442, .slice p6445 x6435.Raised.length c6446, .slice p6449 x6435.Cpus.length c6450] (.slice p6437 x6435.Routes.length c6438) rfl (by kernel_rfl) (by kernel_rfl) (by kernel_rfl) (M6476.blk 0 (b := b6470) (o := .cells ⟨[.slice p6437 x6435.Routes.length c6438, .slice p6441 x6435.Enabled.length c6442, .slice p6445 x6435.Raised.length c6446, .slice p6449 x6435.Cpus.length c6450]⟩ 32 (0, 0)) (by kernel_rfl))) ?_
  refine W_run 1 [(2, .pointer (some ⟨b6470, 0, none⟩)), (3, .pointer (some ⟨b6474, 0, none⟩)), (6, .slice p6437 x6435.Routes.length c6438), (7, .pointer (some ⟨b6474, 0, none⟩))] w6475 (by kernel_rfl) ?_
  refine W_val (.slice p6454 x6452.Routes.length c6455) w6475 (by kernel_rfl) (E_load (e := 32) (fr := (0, 0)) _ _ false 1 b6474 0 [.slice p6454 x6452.Routes.length c6455, .slice p6458 x6452.Enabled.length c6459, .slice p6462 x6452.Raised.length c6463, .slice p6466 x6452.Cpus.length c6467] (.slice p6454 x6452.Routes.length c6455) rfl (by kernel_rfl) (by kernel_rfl) (by kernel_rfl) (M6476.blk 1 (b := b6474) (o := .cells ⟨[.slice p6454 x6452.Routes.length c6455, .slice p6458 x6452.Enabled.length c6459, .slice p6462 x6452.Raised.length c6463, .slice p6466 x6452.Cpus.length c6467]⟩ 32 (0, 0)) (by kernel_rfl))) ?_
  obtain ⟨r6545, hr6545, hm⟩ := gx_bind hm
  refine W_call 61 #[.slice p6437 x6435.Routes.length c6438, .slice p6454 x6452.Routes.length c6455] (by kernel_rfl) (by kernel_rfl) ?_
  refine (c_l_eqRouteS w6475 x6435.Routes p6437 c6438 (h6439.mem0 M6476) x6452.Routes p6454 c6455 (h6456.mem0 M6476) hr6545).mono ?_
  rintro e_ w6546 ⟨rfl, K6547⟩
  have M6548 := M6476.call0 K6547
  refine ⟨_, rfl, ?_⟩
  refine W_run 1 [(2, .pointer (some ⟨b6470, 0, none⟩)), (3, .pointer (some ⟨b6474, 0, none⟩)), (10, .bool (!r6545))] w6546 (by kernel_rfl) ?_
  refine W_nil ?_
  refine N_then ?_
  rcases gx_bif hm with ⟨hc6549, hm⟩ | ⟨hc6549, hm⟩
  · refine G_cond_t (b := (!r6545)) hc6549 (by kernel_rfl) ?_
    refine G_seq ?_
    refine G_region ?_
    refine W_run 1 [(4, .bool false)] w6546 (by kernel_rfl) ?_
    refine W_nil ?_
    refine N_then ?_
    refine G_ret ?_
    refine N_then_ret ?_
    obtain rfl := Option.some.inj hm
    refine N_ret [.bool false] (RVs_cons (RV_tmp (by kernel_rfl)) RVs_nil) ?_
    exact ⟨rfl, M6548.pick [] (by kernel_rfl)⟩
  · refine G_cond_f (b := (!r6545)) hc6549 (by kernel_rfl) ?_
    refine G_skip ?_
    refine N_then ?_
    refine G_seq ?_
    refine G_seq ?_
    refine G_region ?_
    refine W_run 1 [(2, .pointer (some ⟨b6470, 0, none⟩)), (3, .pointer (some ⟨b6474, 0, none⟩)), (11, .pointer (some ⟨b6470, 1, none⟩))] w6546 (by kernel_rfl) ?_
    refine W_val (.slice p6441 x6435.Enabled.length c6442) w6546 (by kernel_rfl) (E_load (e := 32) (fr := (0, 0)) _ _ false 1 b6470 1 [.slice p6437 x6435.Routes.length c6438, .slice p6441 x6435.Enabled.length c6442, .slice p6445 x6435.Raised.length c6446, .slice p6449 x6435.Cpus.length c6450] (.slice p6441 x6435.Enabled.length c6442) rfl (by kernel_rfl) (by kernel_rfl) (by kernel_rfl) (M6548.blk 0 (b := b6470) (o := .cells ⟨[.slice p6437 x6435.Routes.length c6438, .slice p6441 x6435.Enabled.length c6442, .slice p6445 x6435.Raised.length c6446, .slice p6449 x6435.Cpus.length c6450]⟩ 32 (0, 0)) (by kernel_rfl))) ?_
    refine W_run 1 [(2, .pointer (some ⟨b6470, 0, none⟩)), (3, .pointer (some ⟨b6474, 0, none⟩)), (12, .slice p6441 x6435.Enabled.length c6442), (13, .pointer (some ⟨b6474, 1, none⟩))] w6546 (by kernel_rfl) ?_
    refine W_val (.slice p6458 x6452.Enabled.length c6459) w6546 (by kernel_rfl) (E_load (e := 32) (fr := (0, 0)) _ _ false 1 b6474 1 [.slice p6454 x6452.Routes.length c6455, .slice p6458 x6452.Enabled.length c6459, .slice p6462 x6452.Raised.length c6463, .slice p6466 x6452.Cpus.length c6467] (.slice p6458 x6452.Enabled.length c6459) rfl (by kernel_rfl) (by kernel_rfl) (by kernel_rfl) (M6548.blk 1 (b := b6474) (o := .cells ⟨[.slice p6454 x6452.Routes.length c6455, .slice p6458 x6452.Enabled.length c6459, .slice p6462 x6452.Raised.length c6463, .slice p6466 x6452.Cpus.length c6467]⟩ 32 (0, 0)) (by kernel_rfl))) ?_
    obtain ⟨r6594, hr6594, hm⟩ := gx_bind hm
    refine W_call 62 #[.slice p6441 x6435.Enabled.length c6442, .slice p6458 x6452.Enabled.length c6459] (by kernel_rfl) (by kernel_rfl) ?_
    refine (c_l_eqBoolS w6546 x6435.Enabled p6441 c6442 (h6443.mem0 M6548) x6452.Enabled p6458 c6459 (h6460.mem0 M6548) hr6594).mono ?_
    rintro e_ w6595 ⟨rfl, K6596⟩
    have M6597 := M6548.call0 K6596
    refine ⟨_, rfl, ?_⟩
    refine W_run 1 [(2, .pointer (some ⟨b6470, 0, none⟩)), (3, .pointer (some ⟨b6474, 0, none⟩)), (16, .bool (!r6594))] w6595 (by kernel_rfl) ?_
    refine W_nil ?_
    refine N_then ?_
    rcases gx_bif hm with ⟨hc6598, hm⟩ | ⟨hc6598, hm⟩
    · refine G_cond_t (b := (!r6594)) hc6598 (by kernel_rfl) ?_
      refine G_seq ?_
      refine G_region ?_
      refine W_run 1 [(4, .bool false)] w6595 (by kernel_rfl) ?_
      refine W_nil ?_
      refine N_then ?_
      refine G_ret ?_
      refine N_then_ret ?_
      obtain rfl := Option.some.inj hm
      refine N_ret [.bool false] (RVs_cons (RV_tmp (by kernel_rfl)) RVs_nil) ?_
      exact ⟨rfl, M6597.pick [] (by kernel_rfl)⟩
    · refine G_cond_f (b := (!r6594)) hc6598 (by kernel_rfl) ?_
      refine G_skip ?_
      refine N_then ?_
      refine G_seq ?_
      refine G_seq ?_
      refine G_region ?_
      refine W_run 1 [(2, .pointer (some ⟨b6470, 0, none⟩)), (3, .pointer (some ⟨b6474, 0, none⟩)), (17, .pointer (some ⟨b6470, 2, none⟩))] w6595 (by kernel_rfl) ?_
      refine W_val (.slice p6445 x6435.Raised.length c6446) w6595 (by kernel_rfl) (E_load (e := 32) (fr := (0, 0)) _ _ false 1 b6470 2 [.slice p6437 x6435.Routes.length c6438, .slice p6441 x6435.Enabled.length c6442, .slice p6445 x6435.Raised.length c6446, .slice p6449 x6435.Cpus.length c6450] (.slice p6445 x6435.Raised.length c6446) rfl (by kernel_rfl) (by kernel_rfl) (by kernel_rfl) (M6597.blk 0 (b := b6470) (o := .cells ⟨[.slice p6437 x6435.Routes.length c6438, .slice p6441 x6435.Enabled.length c6442, .slice p6445 x6435.Raised.length c6446, .slice p6449 x6435.Cpus.length c6450]⟩ 32 (0, 0)) (by kernel_rfl))) ?_
      refine W_run 1 [(2, .pointer (some ⟨b6470, 0, none⟩)), (3, .pointer (some ⟨b6474, 0, none⟩)), (18, .slice p6445 x6435.Raised.length c6446), (19, .pointer (some ⟨b6474, 2, none⟩))] w6595 (by kernel_rfl) ?_
      refine W_val (.slice p6462 x6452.Raised.length c6463) w6595 (by kernel_rfl) (E_load (e := 32) (fr := (0, 0)) _ _ false 1 b6474 2 [.slice p6454 x6452.Routes.length c6455, .slice p6458 x6452.Enabled.length c6459, .slice p6462 x6452.Raised.length c6463, .slice p6466 x6452.Cpus.length c6467] (.slice p6462 x6452.Raised.length c6463) rfl (by kernel_rfl) (by kernel_rfl) (by kernel_rfl) (M6597.blk 1 (b := b6474) (o := .cells ⟨[.slice p6454 x6452.Routes.length c6455, .slice p6458 x6452.Enabled.length c6459, .slice p6462 x6452.Raised.length c6463, .slice p6466 x6452.Cpus.length c6467]⟩ 32 (0, 0)) (by kernel_rfl))) ?_
      obtain ⟨r6599, hr6599, hm⟩ := gx_bind hm
      refine W_call 62 #[.slice p6445 x6435.Raised.length c6446, .slice p6462 x6452.Raised.length c6463] (by kernel_rfl) (by kernel_rfl) ?_
      refine (c_l_eqBoolS w6595 x6435.Raised p6445 c6446 (h6447.mem0 M6597) x6452.Raised p6462 c6463 (h6464.mem0 M6597) hr6599).mono ?_
      rintro e_ w6600 ⟨rfl, K6601⟩
      have M6602 := M6597.call0 K6601
      refine ⟨_, rfl, ?_⟩
      refine W_run 1 [(2, .pointer (some ⟨b6470, 0, none⟩)), (3, .pointer (some ⟨b6474, 0, none⟩)), (22, .bool (!r6599))] w6600 (by kernel_rfl) ?_
      refine W_nil ?_
      refine N_then ?_
      rcases gx_bif hm with ⟨hc6603, hm⟩ | ⟨hc6603, hm⟩
      · refine G_cond_t (b := (!r6599)) hc6603 (by kernel_rfl) ?_
        refine G_seq ?_
        refine G_region ?_
        refine W_run 1 [(4, .bool false)] w6600 (by kernel_rfl) ?_
        refine W_nil ?_
        refine N_then ?_
        refine G_ret ?_
        refine N_then_ret ?_
        obtain rfl := Option.some.inj hm
        refine N_ret [.bool false] (RVs_cons (RV_tmp (by kernel_rfl)) RVs_nil) ?_
        exact ⟨rfl, M6602.pick [] (by kernel_rfl)⟩
      · refine G_cond_f (b := (!r6599)) hc6603 (by kernel_rfl) ?_
        refine G_skip ?_
        refine N_then ?_
        refine G_seq ?_
        refine G_seq ?_
        refine G_region ?_
        refine W_run 1 [(3, .pointer (some ⟨b6474, 0, none⟩)), (23, .pointer (some ⟨b6470, 3, none⟩))] w6600 (by kernel_rfl) ?_
        refine W_val (.slice p6449 x6435.Cpus.length c6450) w6600 (by kernel_rfl) (E_load (e := 32) (fr := (0, 0)) _ _ false 1 b6470 3 [.slice p6437 x6435.Routes.length c6438, .slice p6441 x6435.Enabled.length c6442, .slice p6445 x6435.Raised.length c6446, .slice p6449 x6435.Cpus.length c6450] (.slice p6449 x6435.Cpus.length c6450) rfl (by kernel_rfl) (by kernel_rfl) (by kernel_rfl) (M6602.blk 0 (b := b6470) (o := .cells ⟨[.slice p6437 x6435.Routes.length c6438, .slice p6441 x6435.Enabled.length c6442, .slice p6445 x6435.Raised.length c6446, .slice p6449 x6435.Cpus.length c6450]⟩ 32 (0, 0)) (by kernel_rfl))) ?_
        refine W_run 1 [(24, .slice p6449 x6435.Cpus.length c6450), (25, .pointer (some ⟨b6474, 3, none⟩))] w6600 (by kernel_rfl) ?_
        refine W_val (.slice p6466 x6452.Cpus.length c6467) w6600 (by kernel_rfl) (E_load (e := 32) (fr := (0, 0)) _ _ false 1 b6474 3 [.slice p6454 x6452.Routes.length c6455, .slice p6458 x6452.Enabled.length c6459, .slice p6462 x6452.Raised.length c6463, .slice p6466 x6452.Cpus.length c6467] (.slice p6466 x6452.Cpus.length c6467) rfl (by kernel_rfl) (by kernel_rfl) (by kernel_rfl) (M6602.blk 1 (b := b6474) (o := .cells ⟨[.slice p6454 x6452.Routes.length c6455, .slice p6458 x6452.Enabled.length c6459, .slice p6462 x6452.Raised.length c6463, .slice p6466 x6452.Cpus.length c6467]⟩ 32 (0, 0)) (by kernel_rfl))) ?_
        obtain ⟨r6976, hr6976, hm⟩ := gx_bind hm
        refine W_call 63 #[.slice p6449 x6435.Cpus.length c6450, .slice p6466 x6452.Cpus.length c6467] (by kernel_rfl) (by kernel_rfl) ?_
        refine (c_l_eqInterfaceS w6600 x6435.Cpus p6449 c6450 (h6451.mem0 M6602) x6452.Cpus p6466 c6467 (h6468.mem0 M6602) hr6976).mono ?_
        rintro e_ w6977 ⟨rfl, K6978⟩
        have M6979 := M6602.call0 K6978
        refine ⟨_, rfl, ?_⟩
        refine W_run 1 [(28, .bool (!r6976))] w6977 (by kernel_rfl) ?_
        refine W_nil ?_
        refine N_then ?_
        rcases gx_bif hm with ⟨hc6980, hm⟩ | ⟨hc6980, hm⟩
        · refine G_cond_t (b := (!r6976)) hc6980 (by kernel_rfl) ?_
          refine G_seq ?_
          refine G_region ?_
          refine W_run 1 [(4, .bool false)] w6977 (by kernel_rfl) ?_
          refine W_nil ?_
          refine N_then ?_
          refine G_ret ?_
          refine N_then_ret ?_
          obtain rfl := Option.some.inj hm
          refine N_ret [.bool false] (RVs_cons (RV_tmp (by kernel_rfl)) RVs_nil) ?_
          exact ⟨rfl, M6979.pick [] (by kernel_rfl)⟩
        · refine G_cond_f (b := (!r6976)) hc6980 (by kernel_rfl) ?_
          refine G_skip ?_
          refine N_then ?_
          refine G_seq ?_
          refine G_region ?_
          refine W_run 1 [(4, .bool true)] w6977 (by kernel_rfl) ?_
          refine W_nil ?_
          refine N_then ?_
          refine G_ret ?_
          obtain rfl := Option.some.inj hm
          refine N_ret [.bool true] (RVs_cons (RV_tmp (by kernel_rfl)) RVs_nil) ?_
          exact ⟨rfl, M6979.pick [] (by kernel_rfl)⟩
theorem c_l_FnExactIsMachine (w : World) (x1 : Machine) (p3 : Option Addr) (c4 : Nat) (h5 : rdS encRoute w x1.Routes p3 c4) (p7 : Option Addr) (c8 : Nat) (h9 : rdS Gx.encB w x1.Enabled p7 c8) (p11 : Option Addr) (c12 : Nat) (h13 : rdS Gx.encB w x1.Raised p11 c12) (p15 : Option Addr) (c16 : Nat) (h17 : rdD deepInterface w x1.Cpus p15 c16) {r : Bool} (hm : M.l_FnExactIsMachine x1 = some r) :
    Calls Tryz.prog 3 #[.agg #[.slice p3 x1.Routes.length c4, .slice p7 x1.Enabled.length c8, .slice p11 x1.Raised.length c12, .slice p15 x1.Cpus.length c16]] w fun e w' => e = .returned (.bool r) ∧ Mem [] w w' [] := by
  unfold M.l_FnExactIsMachine at hm
  refine C_enter Tryz.func3 rfl (by kernel_rfl) ?_
  have M0 := Mem.refl [] w
  refine G_seq ?_
  refine G_region ?_
  refine W_new (fun b => .pointer (some ⟨b, 0, none⟩)) (.cells ⟨[.slice p3 x1.Routes.length c4, .slice p7 x1.Enabled.length c8, .slice p11 x1.Raised.length c12, .slice p15 x1.Cpus.length c16]⟩ 26 (0, 0)) M0 rfl (by kernel_rfl) (by kernel_rfl) ?_
  intro b19 w20 M21
  refine W_run 1 [(1, .pointer (some ⟨b19, 0, none⟩))] w20 (by kernel_rfl) ?_
  refine W_nil ?_
  refine N_then ?_
  refine G_seq ?_
  refine G_region ?_
  refine W_run 1 [(1, .pointer (some ⟨b19, 0, none⟩)), (3, .int .i64 1048576)] w20 (by kernel_rfl) ?_
  refine W_nil ?_
  refine N_then ?_
  refine G_seq ?_
  refine G_region ?_
  refine W_val (.agg #[.slice p3 x1.Routes.length c4, .slice p7 x1.Enabled.length c8, .slice p11 x1.Raised.length c12, .slice p15 x1.Cpus.length c16]) w20 (by kernel_rfl) (E_load (e := 26) (fr := (0, 0)) _ _ true 4 b19 0 [.slice p3 x1.Routes.length c4, .slice p7 x1.Enabled.length c8, .slice p11 x1.Raised.length c12, .slice p15 x1.Cpus.length c16] (.agg #[.slice p3 x1.Routes.length c4, .slice p7 x1.Enabled.length c8, .slice p11 x1.Raised.length c12, .slice p15 x1.Cpus.length c16]) rfl (by kernel_rfl) (by kernel_rfl) (by kernel_rfl) (M21.blk 0 (b := b19) (o := .cells ⟨[.slice p3 x1.Routes.length c4, .slice p7 x1.Enabled.length c8, .slice p11 x1.Raised.length c12, .slice p15 x1.Cpus.length c16]⟩ 26 (0, 0)) (by kernel_rfl))) ?_
  refine W_run 1 [(1, .pointer (some ⟨b19, 0, none⟩)), (3, .int .i64 1048576), (7, .agg #[.slice p3 x1.Routes.length c4, .slice p7 x1.Enabled.length c8, .slice p11 x1.Raised.length c12, .slice p15 x1.Cpus.length c16]), (8, .int .i64 1048576)] w20 (by kernel_rfl) ?_
  obtain ⟨r221, hr221, hm⟩ := gx_bind hm
  refine W_call 12 #[.agg #[.slice p3 x1.Routes.length c4, .slice p7 x1.Enabled.length c8, .slice p11 x1.Raised.length c12, .slice p15 x1.Cpus.length c16], .int .i64 1048576] (by kernel_rfl) (by kernel_rfl) ?_
  refine (c_l_szMachine w20 x1 p3 c4 (h5.mem0 M21) p7 c8 (h9.mem0 M21) p11 c12 (h13.mem0 M21) p15 c16 (h17.mem0 M21) 1048576 hr221).mono ?_
  rintro e_ w222 ⟨rfl, K223⟩
  have M224 := M21.call0 K223
  refine ⟨_, rfl, ?_⟩
  refine W_run 1 [(1, .pointer (some ⟨b19, 0, none⟩)), (3, .int .i64 r221)] w222 (by kernel_rfl) ?_
  refine W_nil ?_
  refine N_then ?_
  refine G_seq ?_
  refine G_seq ?_
  refine G_region ?_
  refine W_run 2 [(1, .pointer (some ⟨b19, 0, none⟩)), (11, .bool (decide (r221 < 0)))] w222 (by kernel_rfl) ?_
  refine W_nil ?_
  refine N_then ?_
  rcases gx_bif hm with ⟨hc225, hm⟩ | ⟨hc225, hm⟩
  · refine G_cond_t (b := (decide (r221 < 0))) hc225 (by kernel_rfl) ?_
    refine G_seq ?_
    refine G_region ?_
    refine W_run 1 [(2, .bool true)] w222 (by kernel_rfl) ?_
    refine W_nil ?_
    refine N_then ?_
    refine G_ret ?_
    refine N_then_ret ?_
    obtain rfl := Option.some.inj hm
    refine N_ret [.bool true] (RVs_cons (RV_tmp (by kernel_rfl)) RVs_nil) ?_
    exact ⟨rfl, M224.pick [] (by kernel_rfl)⟩
  · refine G_cond_f (b := (decide (r221 < 0))) hc225 (by kernel_rfl) ?_
    refine G_skip ?_
    refine N_then ?_
    refine G_seq ?_
    refine G_region ?_
    refine W_val (.agg #[.slice p3 x1.Routes.length c4, .slice p7 x1.Enabled.length c8, .slice p11 x1.Raised.length c12, .slice p15 x1.Cpus.length c16]) w222 (by kernel_rfl) (E_load (e := 26) (fr := (0, 0)) _ _ true 4 b19 0 [.slice p3 x1.Routes.length c4, .slice p7 x1.Enabled.length c8, .slice p11 x1.Raised.length c12, .slice p15 x1.Cpus.length c16] (.agg #[.slice p3 x1.Routes.length c4, .slice p7 x1.Enabled.length c8, .slice p11 x1.Raised.length c12, .slice p15 x1.Cpus.length c16]) rfl (by kernel_rfl) (by kernel_rfl) (by kernel_rfl) (M224.blk 0 (b := b19) (o := .cells ⟨[.slice p3 x1.Routes.length c4, .slice p7 x1.Enabled.length c8, .slice p11 x1.Raised.length c12, .slice p15 x1.Cpus.length c16]⟩ 26 (0, 0)) (by kernel_rfl))) ?_
    obtain ⟨r1063, hr1063, hm⟩ := gx_bind hm
    refine W_call 14 #[.agg #[.slice p3 x1.Routes.length c4, .slice p7 x1.Enabled.length c8, .slice p11 x1.Raised.length c12, .slice p15 x1.Cpus.length c16]] (by kernel_rfl) (by kernel_rfl) ?_
    refine (c_l_toMachine w222 x1 p3 c4 (h5.mem0 M224) p7 c8 (h9.mem0 M224) p11 c12 (h13.mem0 M224) p15 c16 (h17.mem0 M224) hr1063).mono ?_
    rintro e_ w1085 ⟨p1065, c1066, sg1067, p1070, c1071, sg1072, p1075, c1076, sg1077, p1080, c1081, sg1082, sg1083, rfl, ho1068, ho1073, ho1078, ho1084, K1086⟩
    have M1087 := M224.call K1086
    refine ⟨_, rfl, ?_⟩
    obtain ⟨r3946, hr3946, hm⟩ := gx_bind hm
    refine W_call 13 #[.agg #[.slice p1065 r1063.Routes.length c1066, .slice p1070 r1063.Enabled.length c1071, .slice p1075 r1063.Raised.length c1076, .slice p1080 r1063.Cpus.length c1081]] (by kernel_rfl) (by kernel_rfl) ?_
    refine (c_s_IsMachine w1085 r1063 p1065 c1066 (ho1068.rd M1087 1 (by kernel_rfl)) p1070 c1071 (ho1073.rd M1087 2 (by kernel_rfl)) p1075 c1076 (ho1078.rd M1087 3 (by kernel_rfl)) p1080 c1081 (ho1084.rd M1087 4 (by kernel_rfl) 5 (by kernel_rfl)) hr3946).mono ?_
    rintro e_ w3947 ⟨rfl, K3948⟩
    have M3949 := M1087.call0 K3948
    refine ⟨_, rfl, ?_⟩
    refine W_run 1 [(1, .pointer (some ⟨b19, 0, none⟩)), (4, .bool r3946)] w3947 (by kernel_rfl) ?_
    refine W_nil ?_
    refine N_then ?_
    refine G_seq ?_
    refine G_region ?_
    refine W_val (.agg #[.slice p3 x1.Routes.length c4, .slice p7 x1.Enabled.length c8, .slice p11 x1.Raised.length c12, .slice p15 x1.Cpus.length c16]) w3947 (by kernel_rfl) (E_load (e := 26) (fr := (0, 0)) _ _ true 4 b19 0 [.slice p3 x1.Routes.length c4, .slice p7 x1.Enabled.length c8, .slice p11 x1.Raised.length c12, .slice p15 x1.Cpus.length c16] (.agg #[.slice p3 x1.Routes.length c4, .slice p7 x1.Enabled.length c8, .slice p11 x1.Raised.length c12, .slice p15 x1.Cpus.length c16]) rfl (by kernel_rfl) (by kernel_rfl) (by kernel_rfl) (M3949.blk 0 (b := b19) (o := .cells ⟨[.slice p3 x1.Routes.length c4, .slice p7 x1.Enabled.length c8, .slice p11 x1.Raised.length c12, .slice p15 x1.Cpus.length c16]⟩ 26 (0, 0)) (by kernel_rfl))) ?_
    obtain ⟨r3950, hr3950, hm⟩ := gx_bind hm
    refine W_call 14 #[.agg #[.slice p3 x1.Routes.length c4, .slice p7 x1.Enabled.length c8, .slice p11 x1.Raised.length c12, .slice p15 x1.Cpus.length c16]] (by kernel_rfl) (by kernel_rfl) ?_
    refine (c_l_toMachine w3947 x1 p3 c4 (h5.mem0 M3949) p7 c8 (h9.mem0 M3949) p11 c12 (h13.mem0 M3949) p15 c16 (h17.mem0 M3949) hr3950).mono ?_
    rintro e_ w3972 ⟨p3952, c3953, sg3954, p3957, c3958, sg3959, p3962, c3963, sg3964, p3967, c3968, sg3969, sg3970, rfl, ho3955, ho3960, ho3965, ho3971, K3973⟩
    have M3974 := M3949.call K3973
    refine ⟨_, rfl, ?_⟩
    refine W_new (fun b => .pointer (some ⟨b, 0, none⟩)) (.cells ⟨[.slice none 0 0, .slice none 0 0, .slice none 0 0, .slice none 0 0]⟩ 32 (0, 0)) M3974 rfl (by kernel_rfl) (by kernel_rfl) ?_
    intro b3980 w3981 M3982
    refine W_store _ _ _ true 4 b3980 0 [.slice none 0 0, .slice none 0 0, .slice none 0 0, .slice none 0 0] 32 (.agg #[.slice p3952 r3950.Routes.length c3953, .slice p3957 r3950.Enabled.length c3958, .slice p3962 r3950.Raised.length c3963, .slice p3967 r3950.Cpus.length c3968]) 11 [.slice p3952 r3950.Routes.length c3953, .slice p3957 r3950.Enabled.length c3958, .slice p3962 r3950.Raised.length c3963, .slice p3967 r3950.Cpus.length c3968] M3982 (by kernel_rfl) rfl (by kernel_rfl) (by kernel_rfl) (by kernel_rfl) (by kernel_rfl) (by kernel_rfl) (by kernel_rfl) (by kernel_rfl) (by kernel_rfl) ?_
    intro w3983 M3984
    refine W_nil ?_
    refine N_then ?_
    refine G_seq ?_
    refine G_region ?_
    refine W_val (.agg #[.slice p3952 r3950.Routes.length c3953, .slice p3957 r3950.Enabled.length c3958, .slice p3962 r3950.Raised.length c3963, .slice p3967 r3950.Cpus.length c3968]) w3983 (by kernel_rfl) (E_load (e := 32) (fr := (0, 0)) _ _ true 4 b3980 0 [.slice p3952 r3950.Routes.length c3953, .slice p3957 r3950.Enabled.length c3958, .slice p3962 r3950.Raised.length c3963, .slice p3967 r3950.Cpus.length c3968] (.agg #[.slice p3952 r3950.Routes.length c3953, .slice p3957 r3950.Enabled.length c3958, .slice p3962 r3950.Raised.length c3963, .slice p3967 r3950.Cpus.length c3968]) rfl (by kernel_rfl) (by kernel_rfl) (by kernel_rfl) (M3984.blk 11 (b := b3980) (o := .cells ⟨[.slice p3952 r3950.Routes.length c3953, .slice p3957 r3950.Enabled.length c3958, .slice p3962 r3950.Raised.length c3963, .slice p3967 r3950.Cpus.length c3968]⟩ 32 (0, 0)) (by kernel_rfl))) ?_
    obtain ⟨r6390, hr6390, hm⟩ := gx_bind hm
    refine W_call 15 #[.agg #[.slice p3952 r3950.Routes.length c3953, .slice p3957 r3950.Enabled.length c3958, .slice p3962 r3950.Raised.length c3963, .slice p3967 r3950.Cpus.length c3968]] (by kernel_rfl) (by kernel_rfl) ?_
    refine (c_i_IsMachine w3983 r3950 p3952 c3953 (ho3955.rd M3984 6 (by kernel_rfl)) p3957 c3958 (ho3960.rd M3984 7 (by kernel_rfl)) p3962 c3963 (ho3965.rd M3984 8 (by kernel_rfl)) p3967 c3968 (ho3971.rd M3984 9 (by kernel_rfl) 10 (by kernel_rfl)) hr6390).mono ?_
    rintro e_ w6391 ⟨rfl, K6392⟩
    have M6393 := M3984.call0 K6392
    refine ⟨_, rfl, ?_⟩
    refine W_run 1 [(1, .pointer (some ⟨b19, 0, none⟩)), (4, .bool r3946), (5, .pointer (some ⟨b3980, 0, none⟩)), (6, .bool r6390)] w6391 (by kernel_rfl) ?_
    refine W_nil ?_
    refine N_then ?_
    refine G_seq ?_
    refine G_seq ?_
    refine G_region ?_
    refine W_run 3 [(1, .pointer (some ⟨b19, 0, none⟩)), (5, .pointer (some ⟨b3980, 0, none⟩)), (21, .bool (!(r6390 == r3946)))] w6391 (by kernel_rfl) ?_
    refine W_nil ?_
    refine N_then ?_
    rcases gx_bif hm with ⟨hc6394, hm⟩ | ⟨hc6394, hm⟩
    · refine G_cond_t (b := (!(r6390 == r3946))) hc6394 (by kernel_rfl) ?_
      refine G_seq ?_
      refine G_region ?_
      refine W_run 1 [(2, .bool false)] w6391 (by kernel_rfl) ?_
      refine W_nil ?_
      refine N_then ?_
      refine G_ret ?_
      refine N_then_ret ?_
      obtain rfl := Option.some.inj hm
      refine N_ret [.bool false] (RVs_cons (RV_tmp (by kernel_rfl)) RVs_nil) ?_
      exact ⟨rfl, M6393.pick [] (by kernel_rfl)⟩
    · refine G_cond_f (b := (!(r6390 == r3946))) hc6394 (by kernel_rfl) ?_
      refine G_skip ?_
      refine N_then ?_
      refine G_seq ?_
      refine G_seq ?_
      obtain ⟨r6397, hr6397, hm⟩ := gx_bind hm
      refine G_sub [(1, .pointer (some ⟨b19, 0, none⟩)), (5, .pointer (some ⟨b3980, 0, none⟩)), (21, .bool (!(r6390 == r3946)))] (by kernel_rfl) ?_
      refine G_dagL 3 [[], [], [1]] [[], [], []] [[], [], []] [[], [], []] [[], [], []] [[], [], []] (fun _ => []) (fun i => ([fun f v s => v = (.agg #[.slice p3952 r3950.Routes.length c3953, .slice p3957 r3950.Enabled.length c3958, .slice p3962 r3950.Raised.length c3963, .slice p3967 r3950.Cpus.length c3968] : Value) ∧ s = [], fun f v s => v = (.agg #[.slice p3 x1.Routes.length c4, .slice p7 x1.Enabled.length c8, .slice p11 x1.Raised.length c12, .slice p15 x1.Cpus.length c16] : Value) ∧ s = [], fun f v s => ∃ (p6399 : Option Addr) (c6400 : Nat) (sg6401 : Seg), ∃ (p6404 : Option Addr) (c6405 : Nat) (sg6406 : Seg), ∃ (p6409 : Option Addr) (c6410 : Nat) (sg6411 : Seg), ∃ (p6414 : Option Addr) (c6415 : Nat) (sg6416 : Seg) (sg6417 : Seg), v = (.agg #[.slice p6399 r6397.Routes.length c6400, .slice p6404 r6397.Enabled.length c6405, .slice p6409 r6397.Raised.length c6410, .slice p6414 r6397.Cpus.length c6415] : Value) ∧ s = (sg6401 ++ (sg6406 ++ (sg6411 ++ (sg6416 ++ sg6417)))) ∧ ownS encRoute r6397.Routes p6399 c6400 sg6401 ∧ ownS Gx.encB r6397.Enabled p6404 c6405 sg6406 ∧ ownS Gx.encB r6397.Raised p6409 c6410 sg6411 ∧ ownD deepInterface r6397.Cpus p6414 c6415 sg6416 sg6417] : List ((Nat → Value) → Value → Seg → Prop)).getD i (fun _ _ _ => False)) (fun j f v => ∃ s, (fun i => ([fun f v s => v = (.agg #[.slice p3952 r3950.Routes.length c3953, .slice p3957 r3950.Enabled.length c3958, .slice p3962 r3950.Raised.length c3963, .slice p3967 r3950.Cpus.length c3968] : Value) ∧ s = [], fun f v s => v = (.agg #[.slice p3 x1.Routes.length c4, .slice p7 x1.Enabled.length c8, .slice p11 x1.Raised.length c12, .slice p15 x1.Cpus.length c16] : Value) ∧ s = [], fun f v s => ∃ (p6399 : Option Addr) (c6400 : Nat) (sg6401 : Seg), ∃ (p6404 : Option Addr) (c6405 : Nat) (sg6406 : Seg), ∃ (p6409 : Option Addr) (c6410 : Nat) (sg6411 : Seg), ∃ (p6414 : Option Addr) (c6415 : Nat) (sg6416 : Seg) (sg6417 : Seg), v = (.agg #[.slice p6399 r6397.Routes.length c6400, .slice p6404 r6397.Enabled.length c6405, .slice p6409 r6397.Raised.length c6410, .slice p6414 r6397.Cpus.length c6415] : Value) ∧ s = (sg6401 ++ (sg6406 ++ (sg6411 ++ (sg6416 ++ sg6417)))) ∧ ownS encRoute r6397.Routes p6399 c6400 sg6401 ∧ ownS Gx.encB r6397.Enabled p6404 c6405 sg6406 ∧ ownS Gx.encB r6397.Raised p6409 c6410 sg6411 ∧ ownD deepInterface r6397.Cpus p6414 c6415 sg6416 sg6417] : List ((Nat → Value) → Value → Seg → Prop)).getD i (fun _ _ _ => False)) j f v s) [] [0, 2] [2] (fun _ _ _ s h => ⟨s, h⟩) (by kernel_rfl) (by kernel_rfl) (M6393.preNil 3) (by kernel_rfl) (by kernel_rfl) (by kernel_rfl) (by kernel_rfl) (allOb_cons ?_ (allOb_cons ?_ (allOb_cons ?_ allOb_nil))) ?_
      · intro g6395 f6396
        intro R w6419 M6420
        refine W_val (.agg #[.slice p3952 r3950.Routes.length c3953, .slice p3957 r3950.Enabled.length c3958, .slice p3962 r3950.Raised.length c3963, .slice p3967 r3950.Cpus.length c3968]) w6419 (by kernel_rfl) (E_load (e := 32) (fr := (0, 0)) _ _ true 4 b3980 0 [.slice p3952 r3950.Routes.length c3953, .slice p3957 r3950.Enabled.length c3958, .slice p3962 r3950.Raised.length c3963, .slice p3967 r3950.Cpus.length c3968] (.agg #[.slice p3952 r3950.Routes.length c3953, .slice p3957 r3950.Enabled.length c3958, .slice p3962 r3950.Raised.length c3963, .slice p3967 r3950.Cpus.length c3968]) rfl (by kernel_rfl) (by kernel_rfl) (by kernel_rfl) (M6420.blk 11 (b := b3980) (o := .cells ⟨[.slice p3952 r3950.Routes.length c3953, .slice p3957 r3950.Enabled.length c3958, .slice p3962 r3950.Raised.length c3963, .slice p3967 r3950.Cpus.length c3968]⟩ 32 (0, 0)) (by kernel_rfl))) ?_
        exact W_nil (ob_end (.agg #[.slice p3952 r3950.Routes.length c3953, .slice p3957 r3950.Enabled.length c3958, .slice p3962 r3950.Raised.length c3963, .slice p3967 r3950.Cpus.length c3968]) [] rfl (by kernel_rfl) ⟨by kernel_rfl, rfl⟩ M6420)
      · intro g6395 f6396
        intro R w6423 M6424
        refine W_val (.agg #[.slice p3 x1.Routes.length c4, .slice p7 x1.Enabled.length c8, .slice p11 x1.Raised.length c12, .slice p15 x1.Cpus.length c16]) w6423 (by kernel_rfl) (E_load (e := 26) (fr := (0, 0)) _ _ true 4 b19 0 [.slice p3 x1.Routes.length c4, .slice p7 x1.Enabled.length c8, .slice p11 x1.Raised.length c12, .slice p15 x1.Cpus.length c16] (.agg #[.slice p3 x1.Routes.length c4, .slice p7 x1.Enabled.length c8, .slice p11 x1.Raised.length c12, .slice p15 x1.Cpus.length c16]) rfl (by kernel_rfl) (by kernel_rfl) (by kernel_rfl) (M6424.blk 0 (b := b19) (o := .cells ⟨[.slice p3 x1.Routes.length c4, .slice p7 x1.Enabled.length c8, .slice p11 x1.Raised.length c12, .slice p15 x1.Cpus.length c16]⟩ 26 (0, 0)) (by kernel_rfl))) ?_
        exact W_nil (ob_end (.agg #[.slice p3 x1.Routes.length c4, .slice p7 x1.Enabled.length c8, .slice p11 x1.Raised.length c12, .slice p15 x1.Cpus.length c16]) [] rfl (by kernel_rfl) ⟨by kernel_rfl, rfl⟩ M6424)
      · intro g6395 f6396
        intro v1_ hb1_
        obtain ⟨rfl, _⟩ := hb1_
        intro R w6427 M6428
        refine W_call 14 #[.agg #[.slice p3 x1.Routes.length c4, .slice p7 x1.Enabled.length c8, .slice p11 x1.Raised.length c12, .slice p15 x1.Cpus.length c16]] (by kernel_rfl) (by kernel_rfl) ?_
        refine (c_l_toMachine w6427 x1 p3 c4 (h5.mem0 M6428) p7 c8 (h9.mem0 M6428) p11 c12 (h13.mem0 M6428) p15 c16 (h17.mem0 M6428) hr6397).mono ?_
        rintro e_ w6429 ⟨p6399, c6400, sg6401, p6404, c6405, sg6406, p6409, c6410, sg6411, p6414, c6415, sg6416, sg6417, rfl, ho6402, ho6407, ho6412, ho6418, K6431⟩
        refine ⟨_, rfl, ?_⟩
        exact W_nil (ob_end (.agg #[.slice p6399 r6397.Routes.length c6400, .slice p6404 r6397.Enabled.length c6405, .slice p6409 r6397.Raised.length c6410, .slice p6414 r6397.Cpus.length c6415]) (sg6401 ++ (sg6406 ++ (sg6411 ++ (sg6416 ++ sg6417)))) rfl (by kernel_rfl) ⟨p6399, c6400, sg6401, p6404, c6405, sg6406, p6409, c6410, sg6411, p6414, c6415, sg6416, sg6417, rfl, rfl, ho6402, ho6407, ho6412, ho6418⟩ (Mem.callMid M6428 (K6431.permF (by simp))))
      · intro g6395 f6396
        intro v0_ hb0_
        obtain ⟨rfl, _⟩ := hb0_
        intro v2_ hb2_
        obtain ⟨p6399, c6400, sg6401, p6404, c6405, sg6406, p6409, c6410, sg6411, p6414, c6415, sg6416, sg6417, rfl, hs2_, ho6402, ho6407, ho6412, ho6418⟩ := hb2_
        intro w6432 M6433
        have M6434 : Mem [] w w6432 [[(b19, .cells ⟨[.slice p3 x1.Routes.length c4, .slice p7 x1.Enabled.length c8, .slice p11 x1.Raised.length c12, .slice p15 x1.Cpus.length c16]⟩ 26 (0, 0))], sg1067, sg1072, sg1077, sg1082, sg1083, sg3954, sg3959, sg3964, sg3969, sg3970, [(b3980, .cells ⟨[.slice p3952 r3950.Routes.length c3953, .slice p3957 r3950.Enabled.length c3958, .slice p3962 r3950.Raised.length c3963, .slice p3967 r3950.Cpus.length c3968]⟩ 32 (0, 0))], (g6395 2)] := M6433
        rw [hs2_] at M6434
        replace M6434 : Mem [] w w6432 [[(b19, .cells ⟨[.slice p3 x1.Routes.length c4, .slice p7 x1.Enabled.length c8, .slice p11 x1.Raised.length c12, .slice p15 x1.Cpus.length c16]⟩ 26 (0, 0))], sg1067, sg1072, sg1077, sg1082, sg1083, sg3954, sg3959, sg3964, sg3969, sg3970, [(b3980, .cells ⟨[.slice p3952 r3950.Routes.length c3953, .slice p3957 r3950.Enabled.length c3958, .slice p3962 r3950.Raised.length c3963, .slice p3967 r3950.Cpus.length c3968]⟩ 32 (0, 0))], sg6401, sg6406, sg6411, sg6416, sg6417] := M6434.permF (by simp)
        obtain ⟨r6981, hr6981, hm⟩ := gx_bind hm
        refine W_call 16 #[.agg #[.slice p3952 r3950.Routes.length c3953, .slice p3957 r3950.Enabled.length c3958, .slice p3962 r3950.Raised.length c3963, .slice p3967 r3950.Cpus.length c3968], .agg #[.slice p6399 r6397.Routes.length c6400, .slice p6404 r6397.Enabled.length c6405, .slice p6409 r6397.Raised.length c6410, .slice p6414 r6397.Cpus.length c6415]] (by kernel_rfl) (by kernel_rfl) ?_
        refine (c_l_eqMachine w6432 r3950 p3952 c3953 (ho3955.rd M6434 6 (by kernel_rfl)) p3957 c3958 (ho3960.rd M6434 7 (by kernel_rfl)) p3962 c3963 (ho3965.rd M6434 8 (by kernel_rfl)) p3967 c3968 (ho3971.rd M6434 9 (by kernel_rfl) 10 (by kernel_rfl)) r6397 p6399 c6400 (ho6402.rd M6434 12 (by kernel_rfl)) p6404 c6405 (ho6407.rd M6434 13 (by kernel_rfl)) p6409 c6410 (ho6412.rd M6434 14 (by kernel_rfl)) p6414 c6415 (ho6418.rd M6434 15 (by kernel_rfl) 16 (by kernel_rfl)) hr6981).mono ?_
        rintro e_ w6982 ⟨rfl, K6983⟩
        have M6984 := M6434.call0 K6983
        refine ⟨_, rfl, ?_⟩
        refine W_run 1 [(26, .bool (!r6981))] w6982 (by kernel_rfl) ?_
        refine W_nil ?_
        refine N_then ?_
        rcases gx_bif hm with ⟨hc6985, hm⟩ | ⟨hc6985, hm⟩
        · refine G_cond_t (b := (!r6981)) hc6985 (by kernel_rfl) ?_
          refine G_seq ?_
          refine G_region ?_
          refine W_run 1 [(2, .bool false)] w6982 (by kernel_rfl) ?_
          refine W_nil ?_
          refine N_then ?_
          refine G_ret ?_
          refine N_then_ret ?_
          obtain rfl := Option.some.inj hm
          refine N_ret [.bool false] (RVs_cons (RV_tmp (by kernel_rfl)) RVs_nil) ?_
          exact ⟨rfl, M6984.pick [] (by kernel_rfl)⟩
        · refine G_cond_f (b := (!r6981)) hc6985 (by kernel_rfl) ?_
          refine G_skip ?_
          refine N_then ?_
          refine G_seq ?_
          refine G_region ?_
          refine W_run 1 [(2, .bool true)] w6982 (by kernel_rfl) ?_
          refine W_nil ?_
          refine N_then ?_
          refine G_ret ?_
          obtain rfl := Option.some.inj hm
          refine N_ret [.bool true] (RVs_cons (RV_tmp (by kernel_rfl)) RVs_nil) ?_
          exact ⟨rfl, M6984.pick [] (by kernel_rfl)⟩
theorem c_s_l21Cpu (w : World) (x7065 : Machine) (p7067 : Option Addr) (c7068 : Nat) (h7069 : rdS encRoute w x7065.Routes p7067 c7068) (p7071 : Option Addr) (c7072 : Nat) (h7073 : rdS Gx.encB w x7065.Enabled p7071 c7072) (p7075 : Option Addr) (c7076 : Nat) (h7077 : rdS Gx.encB w x7065.Raised p7075 c7076) (p7079 : Option Addr) (c7080 : Nat) (h7081 : rdD deepInterface w x7065.Cpus p7079 c7080) (x7082 : Int) {r : Bool} (hm : M.s_l21Cpu x7065 x7082 = some r) :
    Calls Tryz.prog 64 #[.agg #[.slice p7067 x7065.Routes.length c7068, .slice p7071 x7065.Enabled.length c7072, .slice p7075 x7065.Raised.length c7076, .slice p7079 x7065.Cpus.length c7080], .int .i64 x7082] w fun e w' => e = .returned (.bool r) ∧ Mem [] w w' [] := by
  unfold M.s_l21Cpu at hm
  refine C_enter Tryz.func64 rfl (by kernel_rfl) ?_
  have M0 := Mem.refl [] w
  refine G_seq ?_
  refine G_region ?_
  refine W_new (fun b => .pointer (some ⟨b, 0, none⟩)) (.cells ⟨[.slice p7067 x7065.Routes.length c7068, .slice p7071 x7065.Enabled.length c7072, .slice p7075 x7065.Raised.length c7076, .slice p7079 x7065.Cpus.length c7080]⟩ 32 (0, 0)) M0 rfl (by kernel_rfl) (by kernel_rfl) ?_
  intro b7084 w7085 M7086
  refine W_run 1 [(1, .int .i64 x7082), (2, .pointer (some ⟨b7084, 0, none⟩))] w7085 (by kernel_rfl) ?_
  refine W_nil ?_
  refine N_then ?_
  refine G_seq ?_
  obtain ⟨o7096, ho7097, hm7098⟩ := gx_bind hm
  refine G_meet (fun a w' => Mem [] w w' [] ∧ Sat Tryz.f64.ntmps [(4, .bool o7096)] a) ?_ ?_
  · have hm := ho7097
    refine G_region ?_
    refine W_val (.agg #[.slice p7067 x7065.Routes.length c7068, .slice p7071 x7065.Enabled.length c7072, .slice p7075 x7065.Raised.length c7076, .slice p7079 x7065.Cpus.length c7080]) w7085 (by kernel_rfl) (E_load (e := 32) (fr := (0, 0)) _ _ true 4 b7084 0 [.slice p7067 x7065.Routes.length c7068, .slice p7071 x7065.Enabled.length c7072, .slice p7075 x7065.Raised.length c7076, .slice p7079 x7065.Cpus.length c7080] (.agg #[.slice p7067 x7065.Routes.length c7068, .slice p7071 x7065.Enabled.length c7072, .slice p7075 x7065.Raised.length c7076, .slice p7079 x7065.Cpus.length c7080]) rfl (by kernel_rfl) (by kernel_rfl) (by kernel_rfl) (M7086.blk 0 (b := b7084) (o := .cells ⟨[.slice p7067 x7065.Routes.length c7068, .slice p7071 x7065.Enabled.length c7072, .slice p7075 x7065.Raised.length c7076, .slice p7079 x7065.Cpus.length c7080]⟩ 32 (0, 0)) (by kernel_rfl))) ?_
    obtain ⟨r7099, hr7099, hm⟩ := gx_bind hm
    refine W_call 54 #[.agg #[.slice p7067 x7065.Routes.length c7068, .slice p7071 x7065.Enabled.length c7072, .slice p7075 x7065.Raised.length c7076, .slice p7079 x7065.Cpus.length c7080]] (by kernel_rfl) (by kernel_rfl) ?_
    refine (c_s_l21Good w7085 x7065 p7067 c7068 (h7069.mem0 M7086) p7071 c7072 (h7073.mem0 M7086) p7075 c7076 (h7077.mem0 M7086) p7079 c7080 (h7081.mem0 M7086) hr7099).mono ?_
    rintro e_ w7100 ⟨rfl, K7101⟩
    have M7102 := M7086.call0 K7101
    refine ⟨_, rfl, ?_⟩
    refine W_run 1 [(1, .int .i64 x7082), (2, .pointer (some ⟨b7084, 0, none⟩)), (7, .bool r7099)] w7100 (by kernel_rfl) ?_
    rcases gx_bif hm with ⟨hc7103, hm⟩ | ⟨hc7103, hm⟩
    · refine W_known 7 true (by kernel_rfl) hc7103 ?_
      refine W_run 2 [(7, .bool true), (8, .int .i64 x7082), (9, .pointer (some ⟨b7084, 3, none⟩))] w7100 (by kernel_rfl) ?_
      refine W_val (.slice p7079 x7065.Cpus.length c7080) w7100 (by kernel_rfl) (E_load (e := 32) (fr := (0, 0)) _ _ false 1 b7084 3 [.slice p7067 x7065.Routes.length c7068, .slice p7071 x7065.Enabled.length c7072, .slice p7075 x7065.Raised.length c7076, .slice p7079 x7065.Cpus.length c7080] (.slice p7079 x7065.Cpus.length c7080) rfl (by kernel_rfl) (by kernel_rfl) (by kernel_rfl) (M7102.blk 0 (b := b7084) (o := .cells ⟨[.slice p7067 x7065.Routes.length c7068, .slice p7071 x7065.Enabled.length c7072, .slice p7075 x7065.Raised.length c7076, .slice p7079 x7065.Cpus.length c7080]⟩ 32 (0, 0)) (by kernel_rfl))) ?_
      refine W_run 2 [(7, .bool true), (8, .int .i64 x7082), (12, .int .i64 (w64 ((x7065.Cpus.length : Int) - 1)))] w7100 (by kernel_rfl) ?_
      obtain ⟨r7104, hr7104, hm⟩ := gx_bind hm
      refine W_call 124 #[.int .i64 x7082, .int .i64 0, .int .i64 (w64 ((x7065.Cpus.length : Int) - 1))] (by kernel_rfl) (by kernel_rfl) ?_
      refine (c_s_l1In w7100 x7082 0 (w64 ((x7065.Cpus.length : Int) - 1)) hr7104).mono ?_
      rintro e_ w7105 ⟨rfl, K7106⟩
      have M7107 := M7102.call0 K7106
      refine ⟨_, rfl, ?_⟩
      refine W_run 2 [(4, .bool r7104)] w7105 (by kernel_rfl) ?_
      refine W_nil ?_
      obtain rfl := Option.some.inj hm
      exact N_meet fun a ha => ⟨M7107.pick [] (by kernel_rfl), ha.sub (by kernel_rfl)⟩
    · refine W_known 7 false (by kernel_rfl) hc7103 ?_
      refine W_run 8 [(4, .bool false)] w7100 (by kernel_rfl) ?_
      refine W_nil ?_
      obtain rfl := Option.some.inj hm
      exact N_meet fun a ha => ⟨M7102.pick [] (by kernel_rfl), ha.sub (by kernel_rfl)⟩
  · intro a7110 w7108 ⟨M7109, hS7111⟩
    refine N_use hS7111 ?_
    have hm := hm7098
    refine N_then ?_
    refine G_ret ?_
    obtain rfl := Option.some.inj hm
    refine N_ret [.bool o7096] (RVs_cons (RV_tmp (by kernel_rfl)) RVs_nil) ?_
    exact ⟨rfl, M7109.pick [] (by kernel_rfl)⟩
theorem c_s_l1Own (w : World) (x7134 : List Int) (p7136 : Option Addr) (c7137 : Nat) (h7138 : rdS Gx.encI w x7134 p7136 c7137) {r : (List Int)} (hm : M.s_l1Own x7134 = some r) :
    Calls Tryz.prog 65 #[.slice p7136 x7134.length c7137] w fun e w' => ∃ (p7140 : Option Addr) (c7141 : Nat) (sg7142 : Seg), e = .returned (.slice p7140 r.length c7141) ∧ ownS Gx.encI r p7140 c7141 sg7142 ∧ Mem [] w w' [sg7142] := by
  unfold M.s_l1Own at hm
  refine C_enter Tryz.func65 rfl (by kernel_rfl) ?_
  have M0 := Mem.refl [] w
  refine G_seq ?_
  refine G_region ?_
  refine W_run 1 [(0, .slice p7136 x7134.length c7137)] w (by kernel_rfl) ?_
  refine W_nil ?_
  refine N_then ?_
  refine G_seq ?_
  refine G_region ?_
  refine W_lit (E := Gx.encI) ([] : List Int) 0 [] 3 M0 (by kernel_rfl) (by kernel_rfl) (by kernel_rfl) (by kernel_rfl) (by kernel_rfl) ?_
  intro p7144 c7145 sg7146 w7147 ho7148 M7149
  refine W_run 1 [(3, .slice p7144 ([] : List Int).length c7145), (4, .slice p7136 x7134.length c7137)] w7147 (by kernel_rfl) ?_
  obtain ⟨ap7151, hap7151, hm⟩ := gx_bind hm
  refine W_append (E := Gx.encI) _ _ _ 8 [.int .i64 0] 0 c7137 M7149 ho7148 (by kernel_rfl) (by kernel_rfl) (by kernel_rfl) rfl (by kernel_rfl) (by kernel_rfl) (by kernel_rfl) (by kernel_rfl) (by kernel_rfl) (by kernel_rfl) (h7138.mem0 M7149) hap7151 ?_
  intro p7152 c7153 sg7154 w7155 ho7156 M7157
  refine W_run 1 [(2, .slice p7152 ap7151.length c7153)] w7155 (by kernel_rfl) ?_
  refine W_nil ?_
  refine N_then ?_
  refine G_ret ?_
  obtain rfl := Option.some.inj hm
  refine N_ret [.slice p7152 ap7151.length c7153] (RVs_cons (RV_tmp (by kernel_rfl)) RVs_nil) ?_
  exact ⟨p7152, c7153, sg7154, rfl, ho7156, M7157.pick [0] (by kernel_rfl)⟩
theorem c_s_RunningOn (w : World) (x7038 : Machine) (p7040 : Option Addr) (c7041 : Nat) (h7042 : rdS encRoute w x7038.Routes p7040 c7041) (p7044 : Option Addr) (c7045 : Nat) (h7046 : rdS Gx.encB w x7038.Enabled p7044 c7045) (p7048 : Option Addr) (c7049 : Nat) (h7050 : rdS Gx.encB w x7038.Raised p7048 c7049) (p7052 : Option Addr) (c7053 : Nat) (h7054 : rdD deepInterface w x7038.Cpus p7052 c7053) (x7055 : Int) {r : (List Int) × Bool} (hm : M.s_RunningOn x7038 x7055 = some r) :
    Calls Tryz.prog 17 #[.agg #[.slice p7040 x7038.Routes.length c7041, .slice p7044 x7038.Enabled.length c7045, .slice p7048 x7038.Raised.length c7049, .slice p7052 x7038.Cpus.length c7053], .int .i64 x7055] w fun e w' => ∃ (p7057 : Option Addr) (c7058 : Nat) (sg7059 : Seg), e = .returned (.tuple #[.slice p7057 r.1.length c7058, .bool r.2]) ∧ ownS Gx.encI r.1 p7057 c7058 sg7059 ∧ Mem [] w w' [sg7059] := by
  unfold M.s_RunningOn at hm
  refine C_enter Tryz.func17 rfl (by kernel_rfl) ?_
  have M0 := Mem.refl [] w
  refine G_seq ?_
  refine G_region ?_
  refine W_new (fun b => .pointer (some ⟨b, 0, none⟩)) (.cells ⟨[.slice p7040 x7038.Routes.length c7041, .slice p7044 x7038.Enabled.length c7045, .slice p7048 x7038.Raised.length c7049, .slice p7052 x7038.Cpus.length c7053]⟩ 32 (0, 0)) M0 rfl (by kernel_rfl) (by kernel_rfl) ?_
  intro b7061 w7062 M7063
  refine W_run 2 [(1, .int .i64 x7055), (2, .pointer (some ⟨b7061, 0, none⟩))] w7062 (by kernel_rfl) ?_
  refine W_nil ?_
  refine N_then ?_
  refine G_seq ?_
  refine G_seq ?_
  refine G_region ?_
  refine W_val (.agg #[.slice p7040 x7038.Routes.length c7041, .slice p7044 x7038.Enabled.length c7045, .slice p7048 x7038.Raised.length c7049, .slice p7052 x7038.Cpus.length c7053]) w7062 (by kernel_rfl) (E_load (e := 32) (fr := (0, 0)) _ _ true 4 b7061 0 [.slice p7040 x7038.Routes.length c7041, .slice p7044 x7038.Enabled.length c7045, .slice p7048 x7038.Raised.length c7049, .slice p7052 x7038.Cpus.length c7053] (.agg #[.slice p7040 x7038.Routes.length c7041, .slice p7044 x7038.Enabled.length c7045, .slice p7048 x7038.Raised.length c7049, .slice p7052 x7038.Cpus.length c7053]) rfl (by kernel_rfl) (by kernel_rfl) (by kernel_rfl) (M7063.blk 0 (b := b7061) (o := .cells ⟨[.slice p7040 x7038.Routes.length c7041, .slice p7044 x7038.Enabled.length c7045, .slice p7048 x7038.Raised.length c7049, .slice p7052 x7038.Cpus.length c7053]⟩ 32 (0, 0)) (by kernel_rfl))) ?_
  refine W_run 1 [(1, .int .i64 x7055), (2, .pointer (some ⟨b7061, 0, none⟩)), (6, .agg #[.slice p7040 x7038.Routes.length c7041, .slice p7044 x7038.Enabled.length c7045, .slice p7048 x7038.Raised.length c7049, .slice p7052 x7038.Cpus.length c7053]), (7, .int .i64 x7055)] w7062 (by kernel_rfl) ?_
  obtain ⟨r7112, hr7112, hm⟩ := gx_bind hm
  refine W_call 64 #[.agg #[.slice p7040 x7038.Routes.length c7041, .slice p7044 x7038.Enabled.length c7045, .slice p7048 x7038.Raised.length c7049, .slice p7052 x7038.Cpus.length c7053], .int .i64 x7055] (by kernel_rfl) (by kernel_rfl) ?_
  refine (c_s_l21Cpu w7062 x7038 p7040 c7041 (h7042.mem0 M7063) p7044 c7045 (h7046.mem0 M7063) p7048 c7049 (h7050.mem0 M7063) p7052 c7053 (h7054.mem0 M7063) x7055 hr7112).mono ?_
  rintro e_ w7113 ⟨rfl, K7114⟩
  have M7115 := M7063.call0 K7114
  refine ⟨_, rfl, ?_⟩
  refine W_run 1 [(1, .int .i64 x7055), (2, .pointer (some ⟨b7061, 0, none⟩)), (9, .bool (!r7112))] w7113 (by kernel_rfl) ?_
  refine W_nil ?_
  refine N_then ?_
  rcases gx_bif hm with ⟨hc7116, hm⟩ | ⟨hc7116, hm⟩
  · refine G_cond_t (b := (!r7112)) hc7116 (by kernel_rfl) ?_
    refine G_seq ?_
    refine G_region ?_
    refine W_lit (E := Gx.encI) ([] : List Int) 0 [] 3 M7115 (by kernel_rfl) (by kernel_rfl) (by kernel_rfl) (by kernel_rfl) (by kernel_rfl) ?_
    intro p7117 c7118 sg7119 w7120 ho7121 M7122
    refine W_run 2 [(4, .slice p7117 ([] : List Int).length c7118), (5, .bool false)] w7120 (by kernel_rfl) ?_
    refine W_nil ?_
    refine N_then ?_
    refine G_ret ?_
    refine N_then_ret ?_
    obtain rfl := Option.some.inj hm
    refine N_ret [.slice p7117 ([] : List Int).length c7118, .bool false] (RVs_cons (RV_tmp (by kernel_rfl)) (RVs_cons (RV_tmp (by kernel_rfl)) RVs_nil)) ?_
    exact ⟨p7117, c7118, sg7119, rfl, ho7121, M7122.pick [1] (by kernel_rfl)⟩
  · refine G_cond_f (b := (!r7112)) hc7116 (by kernel_rfl) ?_
    refine G_skip ?_
    refine N_then ?_
    refine G_seq ?_
    refine G_region ?_
    refine W_run 1 [(1, .int .i64 x7055), (11, .pointer (some ⟨b7061, 3, none⟩))] w7113 (by kernel_rfl) ?_
    refine W_val (.slice p7052 x7038.Cpus.length c7053) w7113 (by kernel_rfl) (E_load (e := 32) (fr := (0, 0)) _ _ false 1 b7061 3 [.slice p7040 x7038.Routes.length c7041, .slice p7044 x7038.Enabled.length c7045, .slice p7048 x7038.Raised.length c7049, .slice p7052 x7038.Cpus.length c7053] (.slice p7052 x7038.Cpus.length c7053) rfl (by kernel_rfl) (by kernel_rfl) (by kernel_rfl) (M7115.blk 0 (b := b7061) (o := .cells ⟨[.slice p7040 x7038.Routes.length c7041, .slice p7044 x7038.Enabled.length c7045, .slice p7048 x7038.Raised.length c7049, .slice p7052 x7038.Cpus.length c7053]⟩ 32 (0, 0)) (by kernel_rfl))) ?_
    refine W_run 1 [(12, .slice p7052 x7038.Cpus.length c7053), (13, .int .i64 x7055)] w7113 (by kernel_rfl) ?_
    obtain ⟨y7124, hy7124, hm⟩ := gx_bind hm
    obtain ⟨zs7125, hz7126, hr7127, hi7128⟩ := id h7054
    obtain ⟨g7129, hg7130⟩ := gxIdx_fst hz7126 hy7124
    refine W_val (elemP p7052 (x7055.toNat * 4)) w7113 (by kernel_rfl) (E_index (E := deepInterface.E) _ _ _ x7038.Cpus.length c7053 .i64 x7055 4 (y := (y7124, g7129)) rfl (by kernel_rfl) (by kernel_rfl) (by kernel_rfl) (hr7127.mem0 M7115) (len_fst hz7126) hg7130) ?_
    refine W_val (elemP p7052 (x7055.toNat * 4 + 1)) w7113 (by kernel_rfl) (E_fieldE (E := deepInterface.E) _ _ 1 (x7055.toNat * 4) 1 rfl (by kernel_rfl) (by kernel_rfl) (hr7127.mem0 M7115) hg7130) ?_
    refine W_val (.slice ((g7129 0).1) y7124.Stack.length ((g7129 0).2)) w7113 (by kernel_rfl) (E_loadE (E := deepInterface.E) _ _ false 1 x7055 1 (x7055.toNat * 4 + 1) (y7124, g7129) (.slice ((g7129 0).1) y7124.Stack.length ((g7129 0).2)) rfl (by kernel_rfl) (by kernel_rfl) (by kernel_rfl) (hr7127.mem0 M7115) hg7130 rfl) ?_
    obtain ⟨r7159, hr7159, hm⟩ := gx_bind hm
    refine W_call 65 #[.slice ((g7129 0).1) y7124.Stack.length ((g7129 0).2)] (by kernel_rfl) (by kernel_rfl) ?_
    refine (c_s_l1Own w7113 y7124.Stack ((g7129 0).1) ((g7129 0).2) ((hi7128.mem0 M7115).at_ hg7130 0 ⟨Int, Gx.encI, y7124.Stack, (g7129 0).1, (g7129 0).2⟩ (by kernel_rfl)) hr7159).mono ?_
    rintro e_ w7165 ⟨p7161, c7162, sg7163, rfl, ho7164, K7166⟩
    have M7167 := M7115.call K7166
    refine ⟨_, rfl, ?_⟩
    refine W_run 2 [(4, .slice p7161 r7159.length c7162), (5, .bool true)] w7165 (by kernel_rfl) ?_
    refine W_nil ?_
    refine N_then ?_
    refine G_ret ?_
    obtain rfl := Option.some.inj hm
    refine N_ret [.slice p7161 r7159.length c7162, .bool true] (RVs_cons (RV_tmp (by kernel_rfl)) (RVs_cons (RV_tmp (by kernel_rfl)) RVs_nil)) ?_
    exact ⟨p7161, c7162, sg7163, rfl, ho7164, M7167.pick [1] (by kernel_rfl)⟩
theorem c_i_Machine_hasCpu (w : World) (x7244 : Machine) (p7246 : Option Addr) (c7247 : Nat) (h7248 : rdS encRoute w x7244.Routes p7246 c7247) (p7250 : Option Addr) (c7251 : Nat) (h7252 : rdS Gx.encB w x7244.Enabled p7250 c7251) (p7254 : Option Addr) (c7255 : Nat) (h7256 : rdS Gx.encB w x7244.Raised p7254 c7255) (p7258 : Option Addr) (c7259 : Nat) (h7260 : rdD deepInterface w x7244.Cpus p7258 c7259) (x7261 : Int) {r : Bool} (hm : M.i_Machine_hasCpu x7244 x7261 = some r) :
    Calls Tryz.prog 66 #[.agg #[.slice p7246 x7244.Routes.length c7247, .slice p7250 x7244.Enabled.length c7251, .slice p7254 x7244.Raised.length c7255, .slice p7258 x7244.Cpus.length c7259], .int .i64 x7261] w fun e w' => e = .returned (.bool r) ∧ Mem [] w w' [] := by
  unfold M.i_Machine_hasCpu at hm
  refine C_enter Tryz.func66 rfl (by kernel_rfl) ?_
  have M0 := Mem.refl [] w
  refine G_seq ?_
  refine G_region ?_
  refine W_new (fun b => .pointer (some ⟨b, 0, none⟩)) (.cells ⟨[.slice p7246 x7244.Routes.length c7247, .slice p7250 x7244.Enabled.length c7251, .slice p7254 x7244.Raised.length c7255, .slice p7258 x7244.Cpus.length c7259]⟩ 32 (0, 0)) M0 rfl (by kernel_rfl) (by kernel_rfl) ?_
  intro b7263 w7264 M7265
  refine W_run 1 [(1, .int .i64 x7261), (2, .pointer (some ⟨b7263, 0, none⟩))] w7264 (by kernel_rfl) ?_
  refine W_nil ?_
  refine N_then ?_
  refine G_seq ?_
  refine G_region ?_
  refine W_run 2 [(5, .int .i64 x7261), (6, .pointer (some ⟨b7263, 3, none⟩))] w7264 (by kernel_rfl) ?_
  refine W_val (.slice p7258 x7244.Cpus.length c7259) w7264 (by kernel_rfl) (E_load (e := 32) (fr := (0, 0)) _ _ false 1 b7263 3 [.slice p7246 x7244.Routes.length c7247, .slice p7250 x7244.Enabled.length c7251, .slice p7254 x7244.Raised.length c7255, .slice p7258 x7244.Cpus.length c7259] (.slice p7258 x7244.Cpus.length c7259) rfl (by kernel_rfl) (by kernel_rfl) (by kernel_rfl) (M7265.blk 0 (b := b7263) (o := .cells ⟨[.slice p7246 x7244.Routes.length c7247, .slice p7250 x7244.Enabled.length c7251, .slice p7254 x7244.Raised.length c7255, .slice p7258 x7244.Cpus.length c7259]⟩ 32 (0, 0)) (by kernel_rfl))) ?_
  refine W_run 2 [(5, .int .i64 x7261), (9, .int .i64 (w64 ((x7244.Cpus.length : Int) - 1)))] w7264 (by kernel_rfl) ?_
  obtain ⟨r7266, hr7266, hm⟩ := gx_bind hm
  refine W_call 108 #[.int .i64 x7261, .int .i64 0, .int .i64 (w64 ((x7244.Cpus.length : Int) - 1))] (by kernel_rfl) (by kernel_rfl) ?_
  refine (c_i_inside w7264 x7261 0 (w64 ((x7244.Cpus.length : Int) - 1)) hr7266).mono ?_
  rintro e_ w7267 ⟨rfl, K7268⟩
  have M7269 := M7265.call0 K7268
  refine ⟨_, rfl, ?_⟩
  refine W_run 1 [(4, .bool r7266)] w7267 (by kernel_rfl) ?_
  refine W_nil ?_
  refine N_then ?_
  refine G_ret ?_
  obtain rfl := Option.some.inj hm
  refine N_ret [.bool r7266] (RVs_cons (RV_tmp (by kernel_rfl)) RVs_nil) ?_
  exact ⟨rfl, M7269.pick [] (by kernel_rfl)⟩
theorem c_i_RunningOn (w : World) (x7212 : Machine) (p7214 : Option Addr) (c7215 : Nat) (h7216 : rdS encRoute w x7212.Routes p7214 c7215) (p7218 : Option Addr) (c7219 : Nat) (h7220 : rdS Gx.encB w x7212.Enabled p7218 c7219) (p7222 : Option Addr) (c7223 : Nat) (h7224 : rdS Gx.encB w x7212.Raised p7222 c7223) (p7226 : Option Addr) (c7227 : Nat) (h7228 : rdD deepInterface w x7212.Cpus p7226 c7227) (x7229 : Int) {r : (List Int) × Bool} (hm : M.i_RunningOn x7212 x7229 = some r) :
    Calls Tryz.prog 18 #[.agg #[.slice p7214 x7212.Routes.length c7215, .slice p7218 x7212.Enabled.length c7219, .slice p7222 x7212.Raised.length c7223, .slice p7226 x7212.Cpus.length c7227], .int .i64 x7229] w fun e w' => ∃ (p7231 : Option Addr) (c7232 : Nat) (sg7233 : Seg), e = .returned (.tuple #[.slice p7231 r.1.length c7232, .bool r.2]) ∧ ownS Gx.encI r.1 p7231 c7232 sg7233 ∧ Mem [] w w' [sg7233] := by
  unfold M.i_RunningOn at hm
  refine C_enter Tryz.func18 rfl (by kernel_rfl) ?_
  have M0 := Mem.refl [] w
  refine G_seq ?_
  refine G_region ?_
  refine W_new (fun b => .pointer (some ⟨b, 0, none⟩)) (.cells ⟨[.slice p7214 x7212.Routes.length c7215, .slice p7218 x7212.Enabled.length c7219, .slice p7222 x7212.Raised.length c7223, .slice p7226 x7212.Cpus.length c7227]⟩ 32 (0, 0)) M0 rfl (by kernel_rfl) (by kernel_rfl) ?_
  intro b7235 w7236 M7237
  refine W_run 2 [(1, .int .i64 x7229), (2, .pointer (some ⟨b7235, 0, none⟩))] w7236 (by kernel_rfl) ?_
  refine W_nil ?_
  refine N_then ?_
  refine G_seq ?_
  refine G_seq ?_
  obtain ⟨o7274, ho7275, hm7276⟩ := gx_bind hm
  refine G_meet (fun a w' => Mem [] w w' [[(b7235, .cells ⟨[.slice p7214 x7212.Routes.length c7215, .slice p7218 x7212.Enabled.length c7219, .slice p7222 x7212.Raised.length c7223, .slice p7226 x7212.Cpus.length c7227]⟩ 32 (0, 0))]] ∧ Sat Tryz.f18.ntmps [(1, .int .i64 x7229), (2, .pointer (some ⟨b7235, 0, none⟩)), (14, .bool o7274)] a) ?_ ?_
  · have hm := ho7275
    refine G_region ?_
    refine W_val (.agg #[.slice p7214 x7212.Routes.length c7215, .slice p7218 x7212.Enabled.length c7219, .slice p7222 x7212.Raised.length c7223, .slice p7226 x7212.Cpus.length c7227]) w7236 (by kernel_rfl) (E_load (e := 32) (fr := (0, 0)) _ _ true 4 b7235 0 [.slice p7214 x7212.Routes.length c7215, .slice p7218 x7212.Enabled.length c7219, .slice p7222 x7212.Raised.length c7223, .slice p7226 x7212.Cpus.length c7227] (.agg #[.slice p7214 x7212.Routes.length c7215, .slice p7218 x7212.Enabled.length c7219, .slice p7222 x7212.Raised.length c7223, .slice p7226 x7212.Cpus.length c7227]) rfl (by kernel_rfl) (by kernel_rfl) (by kernel_rfl) (M7237.blk 0 (b := b7235) (o := .cells ⟨[.slice p7214 x7212.Routes.length c7215, .slice p7218 x7212.Enabled.length c7219, .slice p7222 x7212.Raised.length c7223, .slice p7226 x7212.Cpus.length c7227]⟩ 32 (0, 0)) (by kernel_rfl))) ?_
    obtain ⟨r7277, hr7277, hm⟩ := gx_bind hm
    refine W_call 15 #[.agg #[.slice p7214 x7212.Routes.length c7215, .slice p7218 x7212.Enabled.length c7219, .slice p7222 x7212.Raised.length c7223, .slice p7226 x7212.Cpus.length c7227]] (by kernel_rfl) (by kernel_rfl) ?_
    refine (c_i_IsMachine w7236 x7212 p7214 c7215 (h7216.mem0 M7237) p7218 c7219 (h7220.mem0 M7237) p7222 c7223 (h7224.mem0 M7237) p7226 c7227 (h7228.mem0 M7237) hr7277).mono ?_
    rintro e_ w7278 ⟨rfl, K7279⟩
    have M7280 := M7237.call0 K7279
    refine ⟨_, rfl, ?_⟩
    refine W_run 2 [(1, .int .i64 x7229), (2, .pointer (some ⟨b7235, 0, none⟩)), (9, .bool (!r7277))] w7278 (by kernel_rfl) ?_
    rcases gx_bif hm with ⟨hc7281, hm⟩ | ⟨hc7281, hm⟩
    · refine W_known 9 true (by kernel_rfl) hc7281 ?_
      refine W_run 5 [(1, .int .i64 x7229), (2, .pointer (some ⟨b7235, 0, none⟩)), (14, .bool true)] w7278 (by kernel_rfl) ?_
      refine W_nil ?_
      obtain rfl := Option.some.inj hm
      exact N_meet fun a ha => ⟨M7280.pick [0] (by kernel_rfl), ha.sub (by kernel_rfl)⟩
    · refine W_known 9 false (by kernel_rfl) hc7281 ?_
      refine W_val (.agg #[.slice p7214 x7212.Routes.length c7215, .slice p7218 x7212.Enabled.length c7219, .slice p7222 x7212.Raised.length c7223, .slice p7226 x7212.Cpus.length c7227]) w7278 (by kernel_rfl) (E_load (e := 32) (fr := (0, 0)) _ _ true 4 b7235 0 [.slice p7214 x7212.Routes.length c7215, .slice p7218 x7212.Enabled.length c7219, .slice p7222 x7212.Raised.length c7223, .slice p7226 x7212.Cpus.length c7227] (.agg #[.slice p7214 x7212.Routes.length c7215, .slice p7218 x7212.Enabled.length c7219, .slice p7222 x7212.Raised.length c7223, .slice p7226 x7212.Cpus.length c7227]) rfl (by kernel_rfl) (by kernel_rfl) (by kernel_rfl) (M7280.blk 0 (b := b7235) (o := .cells ⟨[.slice p7214 x7212.Routes.length c7215, .slice p7218 x7212.Enabled.length c7219, .slice p7222 x7212.Raised.length c7223, .slice p7226 x7212.Cpus.length c7227]⟩ 32 (0, 0)) (by kernel_rfl))) ?_
      refine W_run 1 [(1, .int .i64 x7229), (2, .pointer (some ⟨b7235, 0, none⟩)), (9, .bool false), (10, .agg #[.slice p7214 x7212.Routes.length c7215, .slice p7218 x7212.Enabled.length c7219, .slice p7222 x7212.Raised.length c7223, .slice p7226 x7212.Cpus.length c7227]), (11, .int .i64 x7229)] w7278 (by kernel_rfl) ?_
      obtain ⟨r7282, hr7282, hm⟩ := gx_bind hm
      refine W_call 66 #[.agg #[.slice p7214 x7212.Routes.length c7215, .slice p7218 x7212.Enabled.length c7219, .slice p7222 x7212.Raised.length c7223, .slice p7226 x7212.Cpus.length c7227], .int .i64 x7229] (by kernel_rfl) (by kernel_rfl) ?_
      refine (c_i_Machine_hasCpu w7278 x7212 p7214 c7215 (h7216.mem0 M7280) p7218 c7219 (h7220.mem0 M7280) p7222 c7223 (h7224.mem0 M7280) p7226 c7227 (h7228.mem0 M7280) x7229 hr7282).mono ?_
      rintro e_ w7283 ⟨rfl, K7284⟩
      have M7285 := M7280.call0 K7284
      refine ⟨_, rfl, ?_⟩
      refine W_run 2 [(1, .int .i64 x7229), (2, .pointer (some ⟨b7235, 0, none⟩)), (14, .bool (!r7282))] w7283 (by kernel_rfl) ?_
      refine W_nil ?_
      obtain rfl := Option.some.inj hm
      exact N_meet fun a ha => ⟨M7285.pick [0] (by kernel_rfl), ha.sub (by kernel_rfl)⟩
  · intro a7288 w7286 ⟨M7287, hS7289⟩
    refine N_use hS7289 ?_
    have hm := hm7276
    refine N_then ?_
    rcases gx_bif hm with ⟨hc7290, hm⟩ | ⟨hc7290, hm⟩
    · refine G_cond_t (b := o7274) hc7290 (by kernel_rfl) ?_
      refine G_seq ?_
      refine G_region ?_
      refine W_run 2 [(4, .slice none 0 0), (5, .bool false)] w7286 (by kernel_rfl) ?_
      refine W_nil ?_
      refine N_then ?_
      refine G_ret ?_
      refine N_then_ret ?_
      obtain rfl := Option.some.inj hm
      refine N_ret [.slice none 0 0, .bool false] (RVs_cons (RV_tmp (by kernel_rfl)) (RVs_cons (RV_tmp (by kernel_rfl)) RVs_nil)) ?_
      exact ⟨none, 0, [], rfl, ownS_nil, M7287.pick [100000] (by kernel_rfl)⟩
    · refine G_cond_f (b := o7274) hc7290 (by kernel_rfl) ?_
      refine G_skip ?_
      refine N_then ?_
      refine G_seq ?_
      refine G_region ?_
      refine W_run 1 [(1, .int .i64 x7229), (15, .pointer (some ⟨b7235, 3, none⟩))] w7286 (by kernel_rfl) ?_
      refine W_val (.slice p7226 x7212.Cpus.length c7227) w7286 (by kernel_rfl) (E_load (e := 32) (fr := (0, 0)) _ _ false 1 b7235 3 [.slice p7214 x7212.Routes.length c7215, .slice p7218 x7212.Enabled.length c7219, .slice p7222 x7212.Raised.length c7223, .slice p7226 x7212.Cpus.length c7227] (.slice p7226 x7212.Cpus.length c7227) rfl (by kernel_rfl) (by kernel_rfl) (by kernel_rfl) (M7287.blk 0 (b := b7235) (o := .cells ⟨[.slice p7214 x7212.Routes.length c7215, .slice p7218 x7212.Enabled.length c7219, .slice p7222 x7212.Raised.length c7223, .slice p7226 x7212.Cpus.length c7227]⟩ 32 (0, 0)) (by kernel_rfl))) ?_
      refine W_run 1 [(16, .slice p7226 x7212.Cpus.length c7227), (17, .int .i64 x7229)] w7286 (by kernel_rfl) ?_
      obtain ⟨y7292, hy7292, hm⟩ := gx_bind hm
      obtain ⟨zs7293, hz7294, hr7295, hi7296⟩ := id h7228
      obtain ⟨g7297, hg7298⟩ := gxIdx_fst hz7294 hy7292
      refine W_val (elemP p7226 (x7229.toNat * 4)) w7286 (by kernel_rfl) (E_index (E := deepInterface.E) _ _ _ x7212.Cpus.length c7227 .i64 x7229 4 (y := (y7292, g7297)) rfl (by kernel_rfl) (by kernel_rfl) (by kernel_rfl) (hr7295.mem0 M7287) (len_fst hz7294) hg7298) ?_
      refine W_val (elemP p7226 (x7229.toNat * 4 + 1)) w7286 (by kernel_rfl) (E_fieldE (E := deepInterface.E) _ _ 1 (x7229.toNat * 4) 1 rfl (by kernel_rfl) (by kernel_rfl) (hr7295.mem0 M7287) hg7298) ?_
      refine W_val (.slice ((g7297 0).1) y7292.Stack.length ((g7297 0).2)) w7286 (by kernel_rfl) (E_loadE (E := deepInterface.E) _ _ false 1 x7229 1 (x7229.toNat * 4 + 1) (y7292, g7297) (.slice ((g7297 0).1) y7292.Stack.length ((g7297 0).2)) rfl (by kernel_rfl) (by kernel_rfl) (by kernel_rfl) (hr7295.mem0 M7287) hg7298 rfl) ?_
      obtain ⟨r7302, hr7302, hm⟩ := gx_bind hm
      refine W_call 67 #[.slice ((g7297 0).1) y7292.Stack.length ((g7297 0).2)] (by kernel_rfl) (by kernel_rfl) ?_
      refine (c_i_copyInts w7286 y7292.Stack ((g7297 0).1) ((g7297 0).2) ((hi7296.mem0 M7287).at_ hg7298 0 ⟨Int, Gx.encI, y7292.Stack, (g7297 0).1, (g7297 0).2⟩ (by kernel_rfl)) hr7302).mono ?_
      rintro e_ w7308 ⟨p7304, c7305, sg7306, rfl, ho7307, K7309⟩
      have M7310 := M7287.call K7309
      refine ⟨_, rfl, ?_⟩
      refine W_run 2 [(4, .slice p7304 r7302.length c7305), (5, .bool true)] w7308 (by kernel_rfl) ?_
      refine W_nil ?_
      refine N_then ?_
      refine G_ret ?_
      obtain rfl := Option.some.inj hm
      refine N_ret [.slice p7304 r7302.length c7305, .bool true] (RVs_cons (RV_tmp (by kernel_rfl)) (RVs_cons (RV_tmp (by kernel_rfl)) RVs_nil)) ?_
      exact ⟨p7304, c7305, sg7306, rfl, ho7307, M7310.pick [1] (by kernel_rfl)⟩
theorem c_l_markRouteS (w : World) (x7415 : List Route) (p7417 : Option Addr) (c7418 : Nat) (sg7419 : Seg) (ho7420 : ownS encRoute x7415 p7417 c7418 sg7419) (x7421 : Int) (hA : ∀ q ∈ List.flatten [sg7419], w.heap[q.1]? = some q.2) (hN : (idsOf [sg7419]).Nodup) {r : Int × (List Route)} (hm : M.l_markRouteS x7415 x7421 = some r) :
    Calls Tryz.prog 68 #[.slice p7417 x7415.length c7418, .int .i64 x7421] w fun e w' => ∃ (sg7422 : Seg), e = .returned (.int .i64 r.1) ∧ ownS encRoute r.2 p7417 c7418 sg7422 ∧ r.2.length = x7415.length ∧ Mem (idsOf [sg7419]) w w' [sg7422] := by
  unfold M.l_markRouteS at hm
  refine C_enter Tryz.func68 rfl (by kernel_rfl) ?_
  have M0 := Mem.start' w [sg7419] hA hN
  refine G_seq ?_
  refine G_region ?_
  refine W_run 1 [(0, .slice p7417 x7415.length c7418), (1, .int .i64 x7421)] w (by kernel_rfl) ?_
  refine W_nil ?_
  refine N_then ?_
  refine G_seq ?_
  refine G_seq ?_
  refine G_region ?_
  refine W_run 1 [(0, .slice p7417 x7415.length c7418), (1, .int .i64 x7421), (5, .int .i64 0)] w (by kernel_rfl) ?_
  refine W_nil ?_
  refine N_then ?_
  obtain ⟨out7455, hw7456, hmo7457⟩ := gx_bind hm
  refine G_meet (fun a w' => ∃ (sg7462 : Seg), ownS encRoute out7455.2 p7417 c7418 sg7462 ∧ out7455.2.length = x7415.length ∧ Mem (idsOf [sg7419]) w w' [sg7462] ∧ Sat Tryz.f68.ntmps [(1, .int .i64 out7455.1)] a) ?_ ?_
  · refine G_block ?_
    refine G_while (σ := Int × Int × List Route) (ρ := Int × List Route) (fun s7448 a w' => ∃ (sg7458 : Seg), ownS encRoute s7448.2.2 p7417 c7418 sg7458 ∧ s7448.2.2.length = x7415.length ∧ Mem (idsOf [sg7419]) w w' [sg7458] ∧ Sat Tryz.f68.ntmps [(0, .slice p7417 s7448.2.2.length c7418), (1, .int .i64 s7448.1), (5, .int .i64 s7448.2.1)] a) hw7456 (fun a ha => ⟨sg7419, ho7420, rfl, M0.pick [0] (by kernel_rfl), ha.sub (by kernel_rfl)⟩) ?_
    clear hm
    intro s7448 x7449 hm hout7450 a7451 w7452 ⟨sg7458, ho7459, hl7460, M7453, hS7454⟩
    refine G_use hS7454 ?_
    refine G_seq ?_
    refine G_seq ?_
    refine G_region ?_
    refine W_run 4 [(0, .slice p7417 s7448.2.2.length c7418), (1, .int .i64 s7448.1), (5, .int .i64 s7448.2.1), (9, .bool (decide (s7448.2.1 < (s7448.2.2.length : Int))))] w7452 (by kernel_rfl) ?_
    refine W_nil ?_
    refine N_then ?_
    rcases gx_bif hm with ⟨hc7465, hm⟩ | ⟨hc7465, hm⟩
    · refine G_cond_t (b := (decide (s7448.2.1 < (s7448.2.2.length : Int)))) hc7465 (by kernel_rfl) ?_
      refine G_skip ?_
      refine N_then ?_
      refine G_seq ?_
      refine G_block ?_
      refine G_seq ?_
      refine G_region ?_
      refine W_run 3 [(0, .slice p7417 s7448.2.2.length c7418), (1, .int .i64 s7448.1), (5, .int .i64 s7448.2.1), (12, .slice p7417 s7448.2.2.length c7418), (13, .int .i64 s7448.2.1), (14, .int .i64 s7448.1)] w7452 (by kernel_rfl) ?_
      obtain ⟨y7466, hy7466, hm⟩ := gx_bind hm
      refine W_val (elemP p7417 (s7448.2.1.toNat * 2)) w7452 (by kernel_rfl) (E_index (E := encRoute) _ _ _ s7448.2.2.length c7418 .i64 s7448.2.1 2 (y := y7466) rfl (by kernel_rfl) (by kernel_rfl) (by kernel_rfl) (ho7459.rd M7453 0 (by kernel_rfl)) rfl hy7466) ?_
      refine W_val (elemP p7417 (s7448.2.1.toNat * 2 + 0)) w7452 (by kernel_rfl) (E_fieldE (E := encRoute) _ _ 0 (s7448.2.1.toNat * 2) 0 rfl (by kernel_rfl) (by kernel_rfl) (ho7459.rd M7453 0 (by kernel_rfl)) hy7466) ?_
      refine W_storeE (E := encRoute) _ _ _ false 1 s7448.2.1.toNat 0 (s7448.2.1.toNat * 2 + 0) y7466 (⟨s7448.1, y7466.Target⟩ : Route) (.int .i64 s7448.1) 0 M7453 ho7459 (by kernel_rfl) (by kernel_rfl) rfl (by kernel_rfl) (by kernel_rfl) (by kernel_rfl) (by kernel_rfl) (by kernel_rfl) (by kernel_rfl) (by kernel_rfl) (gxIdx_spec hy7466).2 rfl ?_
      intro w7467 sg7469 ho7470 M7468
      refine W_conv 0 (.slice p7417 s7448.2.2.length c7418) (.slice p7417 (s7448.2.2.set s7448.2.1.toNat (⟨s7448.1, y7466.Target⟩ : Route)).length c7418) (by kernel_rfl) (by rw [@List.length_set _ s7448.2.2 s7448.2.1.toNat (⟨s7448.1, y7466.Target⟩ : Route)]) ?_
      refine W_conv 12 (.slice p7417 s7448.2.2.length c7418) (.slice p7417 (s7448.2.2.set s7448.2.1.toNat (⟨s7448.1, y7466.Target⟩ : Route)).length c7418) (by kernel_rfl) (by rw [@List.length_set _ s7448.2.2 s7448.2.1.toNat (⟨s7448.1, y7466.Target⟩ : Route)]) ?_
      refine W_nil ?_
      refine N_then ?_
      refine G_seq ?_
      refine G_region ?_
      refine W_run 3 [(0, .slice p7417 (s7448.2.2.set s7448.2.1.toNat (⟨s7448.1, y7466.Target⟩ : Route)).length c7418), (1, .int .i64 (w64 (s7448.1 + 1))), (5, .int .i64 s7448.2.1)] w7467 (by kernel_rfl) ?_
      refine W_nil ?_
      refine N_then ?_
      refine G_seq ?_
      refine G_region ?_
      refine W_run 3 [(0, .slice p7417 (s7448.2.2.set s7448.2.1.toNat (⟨s7448.1, y7466.Target⟩ : Route)).length c7418), (1, .int .i64 (w64 (s7448.1 + 1))), (5, .int .i64 s7448.2.1), (19, .slice p7417 (s7448.2.2.set s7448.2.1.toNat (⟨s7448.1, y7466.Target⟩ : Route)).length c7418), (20, .int .i64 s7448.2.1), (21, .int .i64 (w64 (s7448.1 + 1)))] w7467 (by kernel_rfl) ?_
      obtain ⟨y7471, hy7471, hm⟩ := gx_bind hm
      refine W_val (elemP p7417 (s7448.2.1.toNat * 2)) w7467 (by kernel_rfl) (E_index (E := encRoute) _ _ _ (s7448.2.2.set s7448.2.1.toNat (⟨s7448.1, y7466.Target⟩ : Route)).length c7418 .i64 s7448.2.1 2 (y := y7471) rfl (by kernel_rfl) (by kernel_rfl) (by kernel_rfl) (ho7470.rd M7468 0 (by kernel_rfl)) rfl hy7471) ?_
      refine W_val (elemP p7417 (s7448.2.1.toNat * 2 + 1)) w7467 (by kernel_rfl) (E_fieldE (E := encRoute) _ _ 1 (s7448.2.1.toNat * 2) 1 rfl (by kernel_rfl) (by kernel_rfl) (ho7470.rd M7468 0 (by kernel_rfl)) hy7471) ?_
      refine W_storeE (E := encRoute) _ _ _ false 1 s7448.2.1.toNat 1 (s7448.2.1.toNat * 2 + 1) y7471 (⟨y7471.Priority, w64 (s7448.1 + 1)⟩ : Route) (.int .i64 (w64 (s7448.1 + 1))) 0 M7468 ho7470 (by kernel_rfl) (by kernel_rfl) rfl (by kernel_rfl) (by kernel_rfl) (by kernel_rfl) (by kernel_rfl) (by kernel_rfl) (by kernel_rfl) (by kernel_rfl) (gxIdx_spec hy7471).2 rfl ?_
      intro w7472 sg7474 ho7475 M7473
      refine W_conv 0 (.slice p7417 (s7448.2.2.set s7448.2.1.toNat (⟨s7448.1, y7466.Target⟩ : Route)).length c7418) (.slice p7417 ((s7448.2.2.set s7448.2.1.toNat (⟨s7448.1, y7466.Target⟩ : Route)).set s7448.2.1.toNat (⟨y7471.Priority, w64 (s7448.1 + 1)⟩ : Route)).length c7418) (by kernel_rfl) (by rw [@List.length_set _ (s7448.2.2.set s7448.2.1.toNat (⟨s7448.1, y7466.Target⟩ : Route)) s7448.2.1.toNat (⟨y7471.Priority, w64 (s7448.1 + 1)⟩ : Route)]) ?_
      refine W_conv 19 (.slice p7417 (s7448.2.2.set s7448.2.1.toNat (⟨s7448.1, y7466.Target⟩ : Route)).length c7418) (.slice p7417 ((s7448.2.2.set s7448.2.1.toNat (⟨s7448.1, y7466.Target⟩ : Route)).set s7448.2.1.toNat (⟨y7471.Priority, w64 (s7448.1 + 1)⟩ : Route)).length c7418) (by kernel_rfl) (by rw [@List.length_set _ (s7448.2.2.set s7448.2.1.toNat (⟨s7448.1, y7466.Target⟩ : Route)) s7448.2.1.toNat (⟨y7471.Priority, w64 (s7448.1 + 1)⟩ : Route)]) ?_
      refine W_nil ?_
      refine N_then ?_
      refine G_region ?_
      refine W_run 3 [(0, .slice p7417 ((s7448.2.2.set s7448.2.1.toNat (⟨s7448.1, y7466.Target⟩ : Route)).set s7448.2.1.toNat (⟨y7471.Priority, w64 (s7448.1 + 1)⟩ : Route)).length c7418), (1, .int .i64 (w64 ((w64 (s7448.1 + 1)) + 1))), (5, .int .i64 s7448.2.1)] w7472 (by kernel_rfl) ?_
      refine W_nil ?_
      refine N_block ?_
      refine N_then ?_
      refine G_region ?_
      refine W_run 3 [(0, .slice p7417 ((s7448.2.2.set s7448.2.1.toNat (⟨s7448.1, y7466.Target⟩ : Route)).set s7448.2.1.toNat (⟨y7471.Priority, w64 (s7448.1 + 1)⟩ : Route)).length c7418), (1, .int .i64 (w64 ((w64 (s7448.1 + 1)) + 1))), (5, .int .i64 (w64 (s7448.2.1 + 1)))] w7472 (by kernel_rfl) ?_
      refine W_nil ?_
      obtain rfl := Option.some.inj hm
      exact N_loop fun a ha => ⟨_, rfl, sg7474, ho7475, (List.length_set.trans (List.length_set.trans hl7460)), M7473.pick [0] (by kernel_rfl), ha.sub (by kernel_rfl)⟩
    · refine G_cond_f (b := (decide (s7448.2.1 < (s7448.2.2.length : Int)))) hc7465 (by kernel_rfl) ?_
      refine G_exit ?_
      refine N_then_exit ?_
      refine N_then_exit ?_
      refine N_block_eq ?_
      obtain rfl := Option.some.inj hm
      obtain rfl := hout7450 _ rfl
      exact N_meet fun a ha => ⟨sg7458, ho7459, hl7460, M7453.pick [0] (by kernel_rfl), ha.sub (by kernel_rfl)⟩
  · intro a7476 w7477 ⟨sg7462, ho7463, hl7464, M7478, hS7479⟩
    refine N_use hS7479 ?_
    have hm := hmo7457
    refine N_then ?_
    refine G_seq ?_
    refine G_region ?_
    refine W_run 2 [(4, .int .i64 out7455.1)] w7477 (by kernel_rfl) ?_
    refine W_nil ?_
    refine N_then ?_
    refine G_ret ?_
    obtain rfl := Option.some.inj hm
    refine N_ret [.int .i64 out7455.1] (RVs_cons (RV_tmp (by kernel_rfl)) RVs_nil) ?_
    exact ⟨sg7462, rfl, ho7463, hl7464, M7478.pick [0] (by kernel_rfl)⟩
theorem c_l_markBoolS (w : World) (x7488 : List Bool) (p7490 : Option Addr) (c7491 : Nat) (sg7492 : Seg) (ho7493 : ownS Gx.encB x7488 p7490 c7491 sg7492) (x7494 : Int) (hA : ∀ q ∈ List.flatten [sg7492], w.heap[q.1]? = some q.2) (hN : (idsOf [sg7492]).Nodup) {r : Int × (List Bool)} (hm : M.l_markBoolS x7488 x7494 = some r) :
    Calls Tryz.prog 69 #[.slice p7490 x7488.length c7491, .int .i64 x7494] w fun e w' => ∃ (sg7495 : Seg), e = .returned (.int .i64 r.1) ∧ ownS Gx.encB r.2 p7490 c7491 sg7495 ∧ r.2.length = x7488.length ∧ Mem (idsOf [sg7492]) w w' [sg7495] := by
  unfold M.l_markBoolS at hm
  refine C_enter Tryz.func69 rfl (by kernel_rfl) ?_
  have M0 := Mem.start' w [sg7492] hA hN
  refine G_seq ?_
  refine G_region ?_
  refine W_run 1 [(0, .slice p7490 x7488.length c7491), (1, .int .i64 x7494)] w (by kernel_rfl) ?_
  refine W_nil ?_
  refine N_then ?_
  refine G_seq ?_
  refine G_seq ?_
  refine G_region ?_
  refine W_run 1 [(0, .slice p7490 x7488.length c7491), (1, .int .i64 x7494), (5, .int .i64 0)] w (by kernel_rfl) ?_
  refine W_nil ?_
  refine N_then ?_
  obtain ⟨out7518, hw7519, hmo7520⟩ := gx_bind hm
  refine G_meet (fun a w' => ∃ (sg7525 : Seg), ownS Gx.encB out7518.2 p7490 c7491 sg7525 ∧ out7518.2.length = x7488.length ∧ Mem (idsOf [sg7492]) w w' [sg7525] ∧ Sat Tryz.f69.ntmps [(1, .int .i64 out7518.1)] a) ?_ ?_
  · refine G_block ?_
    refine G_while (σ := Int × Int × List Bool) (ρ := Int × List Bool) (fun s7511 a w' => ∃ (sg7521 : Seg), ownS Gx.encB s7511.2.2 p7490 c7491 sg7521 ∧ s7511.2.2.length = x7488.length ∧ Mem (idsOf [sg7492]) w w' [sg7521] ∧ Sat Tryz.f69.ntmps [(0, .slice p7490 s7511.2.2.length c7491), (1, .int .i64 s7511.1), (5, .int .i64 s7511.2.1)] a) hw7519 (fun a ha => ⟨sg7492, ho7493, rfl, M0.pick [0] (by kernel_rfl), ha.sub (by kernel_rfl)⟩) ?_
    clear hm
    intro s7511 x7512 hm hout7513 a7514 w7515 ⟨sg7521, ho7522, hl7523, M7516, hS7517⟩
    refine G_use hS7517 ?_
    refine G_seq ?_
    refine G_seq ?_
    refine G_region ?_
    refine W_run 4 [(0, .slice p7490 s7511.2.2.length c7491), (1, .int .i64 s7511.1), (5, .int .i64 s7511.2.1), (9, .bool (decide (s7511.2.1 < (s7511.2.2.length : Int))))] w7515 (by kernel_rfl) ?_
    refine W_nil ?_
    refine N_then ?_
    rcases gx_bif hm with ⟨hc7528, hm⟩ | ⟨hc7528, hm⟩
    · refine G_cond_t (b := (decide (s7511.2.1 < (s7511.2.2.length : Int)))) hc7528 (by kernel_rfl) ?_
      refine G_skip ?_
      refine N_then ?_
      refine G_seq ?_
      refine G_block ?_
      refine G_seq ?_
      refine G_region ?_
      refine W_run 5 [(0, .slice p7490 s7511.2.2.length c7491), (1, .int .i64 s7511.1), (5, .int .i64 s7511.2.1), (12, .slice p7490 s7511.2.2.length c7491), (13, .int .i64 s7511.2.1), (16, .bool ((s7511.1.tmod 3) == 0))] w7515 (by kernel_rfl) ?_
      obtain ⟨y7529, hy7529, hm⟩ := gx_bind hm
      refine W_val (elemP p7490 (s7511.2.1.toNat * 1)) w7515 (by kernel_rfl) (E_index (E := Gx.encB) _ _ _ s7511.2.2.length c7491 .i64 s7511.2.1 1 (y := y7529) rfl (by kernel_rfl) (by kernel_rfl) (by kernel_rfl) (ho7522.rd M7516 0 (by kernel_rfl)) rfl hy7529) ?_
      refine W_storeE (E := Gx.encB) _ _ _ false 1 s7511.2.1.toNat 0 (s7511.2.1.toNat * 1) y7529 ((s7511.1.tmod 3) == 0) (.bool ((s7511.1.tmod 3) == 0)) 0 M7516 ho7522 (by kernel_rfl) (by kernel_rfl) rfl (by kernel_rfl) (by kernel_rfl) (by kernel_rfl) (by kernel_rfl) (by kernel_rfl) (by kernel_rfl) (by kernel_rfl) (gxIdx_spec hy7529).2 rfl ?_
      intro w7530 sg7532 ho7533 M7531
      refine W_conv 0 (.slice p7490 s7511.2.2.length c7491) (.slice p7490 (s7511.2.2.set s7511.2.1.toNat ((s7511.1.tmod 3) == 0)).length c7491) (by kernel_rfl) (by rw [@List.length_set _ s7511.2.2 s7511.2.1.toNat ((s7511.1.tmod 3) == 0)]) ?_
      refine W_conv 12 (.slice p7490 s7511.2.2.length c7491) (.slice p7490 (s7511.2.2.set s7511.2.1.toNat ((s7511.1.tmod 3) == 0)).length c7491) (by kernel_rfl) (by rw [@List.length_set _ s7511.2.2 s7511.2.1.toNat ((s7511.1.tmod 3) == 0)]) ?_
      refine W_nil ?_
      refine N_then ?_
      refine G_region ?_
      refine W_run 3 [(0, .slice p7490 (s7511.2.2.set s7511.2.1.toNat ((s7511.1.tmod 3) == 0)).length c7491), (1, .int .i64 (w64 (s7511.1 + 1))), (5, .int .i64 s7511.2.1)] w7530 (by kernel_rfl) ?_
      refine W_nil ?_
      refine N_block ?_
      refine N_then ?_
      refine G_region ?_
      refine W_run 3 [(0, .slice p7490 (s7511.2.2.set s7511.2.1.toNat ((s7511.1.tmod 3) == 0)).length c7491), (1, .int .i64 (w64 (s7511.1 + 1))), (5, .int .i64 (w64 (s7511.2.1 + 1)))] w7530 (by kernel_rfl) ?_
      refine W_nil ?_
      obtain rfl := Option.some.inj hm
      exact N_loop fun a ha => ⟨_, rfl, sg7532, ho7533, (List.length_set.trans hl7523), M7531.pick [0] (by kernel_rfl), ha.sub (by kernel_rfl)⟩
    · refine G_cond_f (b := (decide (s7511.2.1 < (s7511.2.2.length : Int)))) hc7528 (by kernel_rfl) ?_
      refine G_exit ?_
      refine N_then_exit ?_
      refine N_then_exit ?_
      refine N_block_eq ?_
      obtain rfl := Option.some.inj hm
      obtain rfl := hout7513 _ rfl
      exact N_meet fun a ha => ⟨sg7521, ho7522, hl7523, M7516.pick [0] (by kernel_rfl), ha.sub (by kernel_rfl)⟩
  · intro a7534 w7535 ⟨sg7525, ho7526, hl7527, M7536, hS7537⟩
    refine N_use hS7537 ?_
    have hm := hmo7520
    refine N_then ?_
    refine G_seq ?_
    refine G_region ?_
    refine W_run 2 [(4, .int .i64 out7518.1)] w7535 (by kernel_rfl) ?_
    refine W_nil ?_
    refine N_then ?_
    refine G_ret ?_
    obtain rfl := Option.some.inj hm
    refine N_ret [.int .i64 out7518.1] (RVs_cons (RV_tmp (by kernel_rfl)) RVs_nil) ?_
    exact ⟨sg7525, rfl, ho7526, hl7527, M7536.pick [0] (by kernel_rfl)⟩
theorem c_l_markIntS (w : World) (x7590 : List Int) (p7592 : Option Addr) (c7593 : Nat) (sg7594 : Seg) (ho7595 : ownS Gx.encI x7590 p7592 c7593 sg7594) (x7596 : Int) (hA : ∀ q ∈ List.flatten [sg7594], w.heap[q.1]? = some q.2) (hN : (idsOf [sg7594]).Nodup) {r : Int × (List Int)} (hm : M.l_markIntS x7590 x7596 = some r) :
    Calls Tryz.prog 21 #[.slice p7592 x7590.length c7593, .int .i64 x7596] w fun e w' => ∃ (sg7597 : Seg), e = .returned (.int .i64 r.1) ∧ ownS Gx.encI r.2 p7592 c7593 sg7597 ∧ r.2.length = x7590.length ∧ Mem (idsOf [sg7594]) w w' [sg7597] := by
  unfold M.l_markIntS at hm
  refine C_enter Tryz.func21 rfl (by kernel_rfl) ?_
  have M0 := Mem.start' w [sg7594] hA hN
  refine G_seq ?_
  refine G_region ?_
  refine W_run 1 [(0, .slice p7592 x7590.length c7593), (1, .int .i64 x7596)] w (by kernel_rfl) ?_
  refine W_nil ?_
  refine N_then ?_
  refine G_seq ?_
  refine G_seq ?_
  refine G_region ?_
  refine W_run 1 [(0, .slice p7592 x7590.length c7593), (1, .int .i64 x7596), (5, .int .i64 0)] w (by kernel_rfl) ?_
  refine W_nil ?_
  refine N_then ?_
  obtain ⟨out7620, hw7621, hmo7622⟩ := gx_bind hm
  refine G_meet (fun a w' => ∃ (sg7627 : Seg), ownS Gx.encI out7620.2 p7592 c7593 sg7627 ∧ out7620.2.length = x7590.length ∧ Mem (idsOf [sg7594]) w w' [sg7627] ∧ Sat Tryz.f21.ntmps [(1, .int .i64 out7620.1)] a) ?_ ?_
  · refine G_block ?_
    refine G_while (σ := Int × Int × List Int) (ρ := Int × List Int) (fun s7613 a w' => ∃ (sg7623 : Seg), ownS Gx.encI s7613.2.2 p7592 c7593 sg7623 ∧ s7613.2.2.length = x7590.length ∧ Mem (idsOf [sg7594]) w w' [sg7623] ∧ Sat Tryz.f21.ntmps [(0, .slice p7592 s7613.2.2.length c7593), (1, .int .i64 s7613.1), (5, .int .i64 s7613.2.1)] a) hw7621 (fun a ha => ⟨sg7594, ho7595, rfl, M0.pick [0] (by kernel_rfl), ha.sub (by kernel_rfl)⟩) ?_
    clear hm
    intro s7613 x7614 hm hout7615 a7616 w7617 ⟨sg7623, ho7624, hl7625, M7618, hS7619⟩
    refine G_use hS7619 ?_
    refine G_seq ?_
    refine G_seq ?_
    refine G_region ?_
    refine W_run 4 [(0, .slice p7592 s7613.2.2.length c7593), (1, .int .i64 s7613.1), (5, .int .i64 s7613.2.1), (9, .bool (decide (s7613.2.1 < (s7613.2.2.length : Int))))] w7617 (by kernel_rfl) ?_
    refine W_nil ?_
    refine N_then ?_
    rcases gx_bif hm with ⟨hc7630, hm⟩ | ⟨hc7630, hm⟩
    · refine G_cond_t (b := (decide (s7613.2.1 < (s7613.2.2.length : Int)))) hc7630 (by kernel_rfl) ?_
      refine G_skip ?_
      refine N_then ?_
      refine G_seq ?_
      refine G_block ?_
      refine G_seq ?_
      refine G_region ?_
      refine W_run 3 [(0, .slice p7592 s7613.2.2.length c7593), (1, .int .i64 s7613.1), (5, .int .i64 s7613.2.1), (12, .slice p7592 s7613.2.2.length c7593), (13, .int .i64 s7613.2.1), (14, .int .i64 s7613.1)] w7617 (by kernel_rfl) ?_
      obtain ⟨y7631, hy7631, hm⟩ := gx_bind hm
      refine W_val (elemP p7592 (s7613.2.1.toNat * 1)) w7617 (by kernel_rfl) (E_index (E := Gx.encI) _ _ _ s7613.2.2.length c7593 .i64 s7613.2.1 1 (y := y7631) rfl (by kernel_rfl) (by kernel_rfl) (by kernel_rfl) (ho7624.rd M7618 0 (by kernel_rfl)) rfl hy7631) ?_
      refine W_storeE (E := Gx.encI) _ _ _ false 1 s7613.2.1.toNat 0 (s7613.2.1.toNat * 1) y7631 s7613.1 (.int .i64 s7613.1) 0 M7618 ho7624 (by kernel_rfl) (by kernel_rfl) rfl (by kernel_rfl) (by kernel_rfl) (by kernel_rfl) (by kernel_rfl) (by kernel_rfl) (by kernel_rfl) (by kernel_rfl) (gxIdx_spec hy7631).2 rfl ?_
      intro w7632 sg7634 ho7635 M7633
      refine W_conv 0 (.slice p7592 s7613.2.2.length c7593) (.slice p7592 (s7613.2.2.set s7613.2.1.toNat s7613.1).length c7593) (by kernel_rfl) (by rw [@List.length_set _ s7613.2.2 s7613.2.1.toNat s7613.1]) ?_
      refine W_conv 12 (.slice p7592 s7613.2.2.length c7593) (.slice p7592 (s7613.2.2.set s7613.2.1.toNat s7613.1).length c7593) (by kernel_rfl) (by rw [@List.length_set _ s7613.2.2 s7613.2.1.toNat s7613.1]) ?_
      refine W_nil ?_
      refine N_then ?_
      refine G_region ?_
      refine W_run 3 [(0, .slice p7592 (s7613.2.2.set s7613.2.1.toNat s7613.1).length c7593), (1, .int .i64 (w64 (s7613.1 + 1))), (5, .int .i64 s7613.2.1)] w7632 (by kernel_rfl) ?_
      refine W_nil ?_
      refine N_block ?_
      refine N_then ?_
      refine G_region ?_
      refine W_run 3 [(0, .slice p7592 (s7613.2.2.set s7613.2.1.toNat s7613.1).length c7593), (1, .int .i64 (w64 (s7613.1 + 1))), (5, .int .i64 (w64 (s7613.2.1 + 1)))] w7632 (by kernel_rfl) ?_
      refine W_nil ?_
      obtain rfl := Option.some.inj hm
      exact N_loop fun a ha => ⟨_, rfl, sg7634, ho7635, (List.length_set.trans hl7625), M7633.pick [0] (by kernel_rfl), ha.sub (by kernel_rfl)⟩
    · refine G_cond_f (b := (decide (s7613.2.1 < (s7613.2.2.length : Int)))) hc7630 (by kernel_rfl) ?_
      refine G_exit ?_
      refine N_then_exit ?_
      refine N_then_exit ?_
      refine N_block_eq ?_
      obtain rfl := Option.some.inj hm
      obtain rfl := hout7615 _ rfl
      exact N_meet fun a ha => ⟨sg7623, ho7624, hl7625, M7618.pick [0] (by kernel_rfl), ha.sub (by kernel_rfl)⟩
  · intro a7636 w7637 ⟨sg7627, ho7628, hl7629, M7638, hS7639⟩
    refine N_use hS7639 ?_
    have hm := hmo7622
    refine N_then ?_
    refine G_seq ?_
    refine G_region ?_
    refine W_run 2 [(4, .int .i64 out7620.1)] w7637 (by kernel_rfl) ?_
    refine W_nil ?_
    refine N_then ?_
    refine G_ret ?_
    obtain rfl := Option.some.inj hm
    refine N_ret [.int .i64 out7620.1] (RVs_cons (RV_tmp (by kernel_rfl)) RVs_nil) ?_
    exact ⟨sg7627, rfl, ho7628, hl7629, M7638.pick [0] (by kernel_rfl)⟩
theorem c_l_markSlotS (w : World) (x7691 : List Slot) (p7693 : Option Addr) (c7694 : Nat) (sg7695 : Seg) (ho7696 : ownS encSlot x7691 p7693 c7694 sg7695) (x7697 : Int) (hA : ∀ q ∈ List.flatten [sg7695], w.heap[q.1]? = some q.2) (hN : (idsOf [sg7695]).Nodup) {r : Int × (List Slot)} (hm : M.l_markSlotS x7691 x7697 = some r) :
    Calls Tryz.prog 125 #[.slice p7693 x7691.length c7694, .int .i64 x7697] w fun e w' => ∃ (sg7698 : Seg), e = .returned (.int .i64 r.1) ∧ ownS encSlot r.2 p7693 c7694 sg7698 ∧ r.2.length = x7691.length ∧ Mem (idsOf [sg7695]) w w' [sg7698] := by
  unfold M.l_markSlotS at hm
  refine C_enter Tryz.func125 rfl (by kernel_rfl) ?_
  have M0 := Mem.start' w [sg7695] hA hN
  refine G_seq ?_
  refine G_region ?_
  refine W_run 1 [(0, .slice p7693 x7691.length c7694), (1, .int .i64 x7697)] w (by kernel_rfl) ?_
  refine W_nil ?_
  refine N_then ?_
  refine G_seq ?_
  refine G_seq ?_
  refine G_region ?_
  refine W_run 1 [(0, .slice p7693 x7691.length c7694), (1, .int .i64 x7697), (5, .int .i64 0)] w (by kernel_rfl) ?_
  refine W_nil ?_
  refine N_then ?_
  obtain ⟨out7741, hw7742, hmo7743⟩ := gx_bind hm
  refine G_meet (fun a w' => ∃ (sg7748 : Seg), ownS encSlot out7741.2 p7693 c7694 sg7748 ∧ out7741.2.length = x7691.length ∧ Mem (idsOf [sg7695]) w w' [sg7748] ∧ Sat Tryz.f125.ntmps [(1, .int .i64 out7741.1)] a) ?_ ?_
  · refine G_block ?_
    refine G_while (σ := Int × Int × List Slot) (ρ := Int × List Slot) (fun s7734 a w' => ∃ (sg7744 : Seg), ownS encSlot s7734.2.2 p7693 c7694 sg7744 ∧ s7734.2.2.length = x7691.length ∧ Mem (idsOf [sg7695]) w w' [sg7744] ∧ Sat Tryz.f125.ntmps [(0, .slice p7693 s7734.2.2.length c7694), (1, .int .i64 s7734.1), (5, .int .i64 s7734.2.1)] a) hw7742 (fun a ha => ⟨sg7695, ho7696, rfl, M0.pick [0] (by kernel_rfl), ha.sub (by kernel_rfl)⟩) ?_
    clear hm
    intro s7734 x7735 hm hout7736 a7737 w7738 ⟨sg7744, ho7745, hl7746, M7739, hS7740⟩
    refine G_use hS7740 ?_
    refine G_seq ?_
    refine G_seq ?_
    refine G_region ?_
    refine W_run 4 [(0, .slice p7693 s7734.2.2.length c7694), (1, .int .i64 s7734.1), (5, .int .i64 s7734.2.1), (9, .bool (decide (s7734.2.1 < (s7734.2.2.length : Int))))] w7738 (by kernel_rfl) ?_
    refine W_nil ?_
    refine N_then ?_
    rcases gx_bif hm with ⟨hc7751, hm⟩ | ⟨hc7751, hm⟩
    · refine G_cond_t (b := (decide (s7734.2.1 < (s7734.2.2.length : Int)))) hc7751 (by kernel_rfl) ?_
      refine G_skip ?_
      refine N_then ?_
      refine G_seq ?_
      refine G_block ?_
      refine G_seq ?_
      refine G_region ?_
      refine W_run 3 [(0, .slice p7693 s7734.2.2.length c7694), (1, .int .i64 s7734.1), (5, .int .i64 s7734.2.1), (12, .slice p7693 s7734.2.2.length c7694), (13, .int .i64 s7734.2.1), (14, .int .i64 s7734.1)] w7738 (by kernel_rfl) ?_
      obtain ⟨y7752, hy7752, hm⟩ := gx_bind hm
      refine W_val (elemP p7693 (s7734.2.1.toNat * 3)) w7738 (by kernel_rfl) (E_index (E := encSlot) _ _ _ s7734.2.2.length c7694 .i64 s7734.2.1 3 (y := y7752) rfl (by kernel_rfl) (by kernel_rfl) (by kernel_rfl) (ho7745.rd M7739 0 (by kernel_rfl)) rfl hy7752) ?_
      refine W_val (elemP p7693 (s7734.2.1.toNat * 3 + 0)) w7738 (by kernel_rfl) (E_fieldE (E := encSlot) _ _ 0 (s7734.2.1.toNat * 3) 0 rfl (by kernel_rfl) (by kernel_rfl) (ho7745.rd M7739 0 (by kernel_rfl)) hy7752) ?_
      refine W_storeE (E := encSlot) _ _ _ false 1 s7734.2.1.toNat 0 (s7734.2.1.toNat * 3 + 0) y7752 (⟨s7734.1, y7752.Irq, y7752.Priority⟩ : Slot) (.int .i64 s7734.1) 0 M7739 ho7745 (by kernel_rfl) (by kernel_rfl) rfl (by kernel_rfl) (by kernel_rfl) (by kernel_rfl) (by kernel_rfl) (by kernel_rfl) (by kernel_rfl) (by kernel_rfl) (gxIdx_spec hy7752).2 rfl ?_
      intro w7753 sg7755 ho7756 M7754
      refine W_conv 0 (.slice p7693 s7734.2.2.length c7694) (.slice p7693 (s7734.2.2.set s7734.2.1.toNat (⟨s7734.1, y7752.Irq, y7752.Priority⟩ : Slot)).length c7694) (by kernel_rfl) (by rw [@List.length_set _ s7734.2.2 s7734.2.1.toNat (⟨s7734.1, y7752.Irq, y7752.Priority⟩ : Slot)]) ?_
      refine W_conv 12 (.slice p7693 s7734.2.2.length c7694) (.slice p7693 (s7734.2.2.set s7734.2.1.toNat (⟨s7734.1, y7752.Irq, y7752.Priority⟩ : Slot)).length c7694) (by kernel_rfl) (by rw [@List.length_set _ s7734.2.2 s7734.2.1.toNat (⟨s7734.1, y7752.Irq, y7752.Priority⟩ : Slot)]) ?_
      refine W_nil ?_
      refine N_then ?_
      refine G_seq ?_
      refine G_region ?_
      refine W_run 3 [(0, .slice p7693 (s7734.2.2.set s7734.2.1.toNat (⟨s7734.1, y7752.Irq, y7752.Priority⟩ : Slot)).length c7694), (1, .int .i64 (w64 (s7734.1 + 1))), (5, .int .i64 s7734.2.1)] w7753 (by kernel_rfl) ?_
      refine W_nil ?_
      refine N_then ?_
      refine G_seq ?_
      refine G_region ?_
      refine W_run 3 [(0, .slice p7693 (s7734.2.2.set s7734.2.1.toNat (⟨s7734.1, y7752.Irq, y7752.Priority⟩ : Slot)).length c7694), (1, .int .i64 (w64 (s7734.1 + 1))), (5, .int .i64 s7734.2.1), (19, .slice p7693 (s7734.2.2.set s7734.2.1.toNat (⟨s7734.1, y7752.Irq, y7752.Priority⟩ : Slot)).length c7694), (20, .int .i64 s7734.2.1), (21, .int .i64 (w64 (s7734.1 + 1)))] w7753 (by kernel_rfl) ?_
      obtain ⟨y7757, hy7757, hm⟩ := gx_bind hm
      refine W_val (elemP p7693 (s7734.2.1.toNat * 3)) w7753 (by kernel_rfl) (E_index (E := encSlot) _ _ _ (s7734.2.2.set s7734.2.1.toNat (⟨s7734.1, y7752.Irq, y7752.Priority⟩ : Slot)).length c7694 .i64 s7734.2.1 3 (y := y7757) rfl (by kernel_rfl) (by kernel_rfl) (by kernel_rfl) (ho7756.rd M7754 0 (by kernel_rfl)) rfl hy7757) ?_
      refine W_val (elemP p7693 (s7734.2.1.toNat * 3 + 1)) w7753 (by kernel_rfl) (E_fieldE (E := encSlot) _ _ 1 (s7734.2.1.toNat * 3) 1 rfl (by kernel_rfl) (by kernel_rfl) (ho7756.rd M7754 0 (by kernel_rfl)) hy7757) ?_
      refine W_storeE (E := encSlot) _ _ _ false 1 s7734.2.1.toNat 1 (s7734.2.1.toNat * 3 + 1) y7757 (⟨y7757.State, w64 (s7734.1 + 1), y7757.Priority⟩ : Slot) (.int .i64 (w64 (s7734.1 + 1))) 0 M7754 ho7756 (by kernel_rfl) (by kernel_rfl) rfl (by kernel_rfl) (by kernel_rfl) (by kernel_rfl) (by kernel_rfl) (by kernel_rfl) (by kernel_rfl) (by kernel_rfl) (gxIdx_spec hy7757).2 rfl ?_
      intro w7758 sg7760 ho7761 M7759
      refine W_conv 0 (.slice p7693 (s7734.2.2.set s7734.2.1.toNat (⟨s7734.1, y7752.Irq, y7752.Priority⟩ : Slot)).length c7694) (.slice p7693 ((s7734.2.2.set s7734.2.1.toNat (⟨s7734.1, y7752.Irq, y7752.Priority⟩ : Slot)).set s7734.2.1.toNat (⟨y7757.State, w64 (s7734.1 + 1), y7757.Priority⟩ : Slot)).length c7694) (by kernel_rfl) (by rw [@List.length_set _ (s7734.2.2.set s7734.2.1.toNat (⟨s7734.1, y7752.Irq, y7752.Priority⟩ : Slot)) s7734.2.1.toNat (⟨y7757.State, w64 (s7734.1 + 1), y7757.Priority⟩ : Slot)]) ?_
      refine W_conv 19 (.slice p7693 (s7734.2.2.set s7734.2.1.toNat (⟨s7734.1, y7752.Irq, y7752.Priority⟩ : Slot)).length c7694) (.slice p7693 ((s7734.2.2.set s7734.2.1.toNat (⟨s7734.1, y7752.Irq, y7752.Priority⟩ : Slot)).set s7734.2.1.toNat (⟨y7757.State, w64 (s7734.1 + 1), y7757.Priority⟩ : Slot)).length c7694) (by kernel_rfl) (by rw [@List.length_set _ (s7734.2.2.set s7734.2.1.toNat (⟨s7734.1, y7752.Irq, y7752.Priority⟩ : Slot)) s7734.2.1.toNat (⟨y7757.State, w64 (s7734.1 + 1), y7757.Priority⟩ : Slot)]) ?_
      refine W_nil ?_
      refine N_then ?_
      refine G_seq ?_
      refine G_region ?_
      refine W_run 3 [(0, .slice p7693 ((s7734.2.2.set s7734.2.1.toNat (⟨s7734.1, y7752.Irq, y7752.Priority⟩ : Slot)).set s7734.2.1.toNat (⟨y7757.State, w64 (s7734.1 + 1), y7757.Priority⟩ : Slot)).length c7694), (1, .int .i64 (w64 ((w64 (s7734.1 + 1)) + 1))), (5, .int .i64 s7734.2.1)] w7758 (by kernel_rfl) ?_
      refine W_nil ?_
      refine N_then ?_
      refine G_seq ?_
      refine G_region ?_
      refine W_run 3 [(0, .slice p7693 ((s7734.2.2.set s7734.2.1.toNat (⟨s7734.1, y7752.Irq, y7752.Priority⟩ : Slot)).set s7734.2.1.toNat (⟨y7757.State, w64 (s7734.1 + 1), y7757.Priority⟩ : Slot)).length c7694), (1, .int .i64 (w64 ((w64 (s7734.1 + 1)) + 1))), (5, .int .i64 s7734.2.1), (26, .slice p7693 ((s7734.2.2.set s7734.2.1.toNat (⟨s7734.1, y7752.Irq, y7752.Priority⟩ : Slot)).set s7734.2.1.toNat (⟨y7757.State, w64 (s7734.1 + 1), y7757.Priority⟩ : Slot)).length c7694), (27, .int .i64 s7734.2.1), (28, .int .i64 (w64 ((w64 (s7734.1 + 1)) + 1)))] w7758 (by kernel_rfl) ?_
      obtain ⟨y7762, hy7762, hm⟩ := gx_bind hm
      refine W_val (elemP p7693 (s7734.2.1.toNat * 3)) w7758 (by kernel_rfl) (E_index (E := encSlot) _ _ _ ((s7734.2.2.set s7734.2.1.toNat (⟨s7734.1, y7752.Irq, y7752.Priority⟩ : Slot)).set s7734.2.1.toNat (⟨y7757.State, w64 (s7734.1 + 1), y7757.Priority⟩ : Slot)).length c7694 .i64 s7734.2.1 3 (y := y7762) rfl (by kernel_rfl) (by kernel_rfl) (by kernel_rfl) (ho7761.rd M7759 0 (by kernel_rfl)) rfl hy7762) ?_
      refine W_val (elemP p7693 (s7734.2.1.toNat * 3 + 2)) w7758 (by kernel_rfl) (E_fieldE (E := encSlot) _ _ 2 (s7734.2.1.toNat * 3) 2 rfl (by kernel_rfl) (by kernel_rfl) (ho7761.rd M7759 0 (by kernel_rfl)) hy7762) ?_
      refine W_storeE (E := encSlot) _ _ _ false 1 s7734.2.1.toNat 2 (s7734.2.1.toNat * 3 + 2) y7762 (⟨y7762.State, y7762.Irq, w64 ((w64 (s7734.1 + 1)) + 1)⟩ : Slot) (.int .i64 (w64 ((w64 (s7734.1 + 1)) + 1))) 0 M7759 ho7761 (by kernel_rfl) (by kernel_rfl) rfl (by kernel_rfl) (by kernel_rfl) (by kernel_rfl) (by kernel_rfl) (by kernel_rfl) (by kernel_rfl) (by kernel_rfl) (gxIdx_spec hy7762).2 rfl ?_
      intro w7763 sg7765 ho7766 M7764
      refine W_conv 0 (.slice p7693 ((s7734.2.2.set s7734.2.1.toNat (⟨s7734.1, y7752.Irq, y7752.Priority⟩ : Slot)).set s7734.2.1.toNat (⟨y7757.State, w64 (s7734.1 + 1), y7757.Priority⟩ : Slot)).length c7694) (.slice p7693 (((s7734.2.2.set s7734.2.1.toNat (⟨s7734.1, y7752.Irq, y7752.Priority⟩ : Slot)).set s7734.2.1.toNat (⟨y7757.State, w64 (s7734.1 + 1), y7757.Priority⟩ : Slot)).set s7734.2.1.toNat (⟨y7762.State, y7762.Irq, w64 ((w64 (s7734.1 + 1)) + 1)⟩ : Slot)).length c7694) (by kernel_rfl) (by rw [@List.length_set _ ((s7734.2.2.set s7734.2.1.toNat (⟨s7734.1, y7752.Irq, y7752.Priority⟩ : Slot)).set s7734.2.1.toNat (⟨y7757.State, w64 (s7734.1 + 1), y7757.Priority⟩ : Slot)) s7734.2.1.toNat (⟨y7762.State, y7762.Irq, w64 ((w64 (s7734.1 + 1)) + 1)⟩ : Slot)]) ?_
      refine W_conv 26 (.slice p7693 ((s7734.2.2.set s7734.2.1.toNat (⟨s7734.1, y7752.Irq, y7752.Priority⟩ : Slot)).set s7734.2.1.toNat (⟨y7757.State, w64 (s7734.1 + 1), y7757.Priority⟩ : Slot)).length c7694) (.slice p7693 (((s7734.2.2.set s7734.2.1.toNat (⟨s7734.1, y7752.Irq, y7752.Priority⟩ : Slot)).set s7734.2.1.toNat (⟨y7757.State, w64 (s7734.1 + 1), y7757.Priority⟩ : Slot)).set s7734.2.1.toNat (⟨y7762.State, y7762.Irq, w64 ((w64 (s7734.1 + 1)) + 1)⟩ : Slot)).length c7694) (by kernel_rfl) (by rw [@List.length_set _ ((s7734.2.2.set s7734.2.1.toNat (⟨s7734.1, y7752.Irq, y7752.Priority⟩ : Slot)).set s7734.2.1.toNat (⟨y7757.State, w64 (s7734.1 + 1), y7757.Priority⟩ : Slot)) s7734.2.1.toNat (⟨y7762.State, y7762.Irq, w64 ((w64 (s7734.1 + 1)) + 1)⟩ : Slot)]) ?_
      refine W_nil ?_
      refine N_then ?_
      refine G_region ?_
      refine W_run 3 [(0, .slice p7693 (((s7734.2.2.set s7734.2.1.toNat (⟨s7734.1, y7752.Irq, y7752.Priority⟩ : Slot)).set s7734.2.1.toNat (⟨y7757.State, w64 (s7734.1 + 1), y7757.Priority⟩ : Slot)).set s7734.2.1.toNat (⟨y7762.State, y7762.Irq, w64 ((w64 (s7734.1 + 1)) + 1)⟩ : Slot)).length c7694), (1, .int .i64 (w64 ((w64 ((w64 (s7734.1 + 1)) + 1)) + 1))), (5, .int .i64 s7734.2.1)] w7763 (by kernel_rfl) ?_
      refine W_nil ?_
      refine N_block ?_
      refine N_then ?_
      refine G_region ?_
      refine W_run 3 [(0, .slice p7693 (((s7734.2.2.set s7734.2.1.toNat (⟨s7734.1, y7752.Irq, y7752.Priority⟩ : Slot)).set s7734.2.1.toNat (⟨y7757.State, w64 (s7734.1 + 1), y7757.Priority⟩ : Slot)).set s7734.2.1.toNat (⟨y7762.State, y7762.Irq, w64 ((w64 (s7734.1 + 1)) + 1)⟩ : Slot)).length c7694), (1, .int .i64 (w64 ((w64 ((w64 (s7734.1 + 1)) + 1)) + 1))), (5, .int .i64 (w64 (s7734.2.1 + 1)))] w7763 (by kernel_rfl) ?_
      refine W_nil ?_
      obtain rfl := Option.some.inj hm
      exact N_loop fun a ha => ⟨_, rfl, sg7765, ho7766, (List.length_set.trans (List.length_set.trans (List.length_set.trans hl7746))), M7764.pick [0] (by kernel_rfl), ha.sub (by kernel_rfl)⟩
    · refine G_cond_f (b := (decide (s7734.2.1 < (s7734.2.2.length : Int)))) hc7751 (by kernel_rfl) ?_
      refine G_exit ?_
      refine N_then_exit ?_
      refine N_then_exit ?_
      refine N_block_eq ?_
      obtain rfl := Option.some.inj hm
      obtain rfl := hout7736 _ rfl
      exact N_meet fun a ha => ⟨sg7744, ho7745, hl7746, M7739.pick [0] (by kernel_rfl), ha.sub (by kernel_rfl)⟩
  · intro a7767 w7768 ⟨sg7748, ho7749, hl7750, M7769, hS7770⟩
    refine N_use hS7770 ?_
    have hm := hmo7743
    refine N_then ?_
    refine G_seq ?_
    refine G_region ?_
    refine W_run 2 [(4, .int .i64 out7741.1)] w7768 (by kernel_rfl) ?_
    refine W_nil ?_
    refine N_then ?_
    refine G_ret ?_
    obtain rfl := Option.some.inj hm
    refine N_ret [.int .i64 out7741.1] (RVs_cons (RV_tmp (by kernel_rfl)) RVs_nil) ?_
    exact ⟨sg7748, rfl, ho7749, hl7750, M7769.pick [0] (by kernel_rfl)⟩
theorem c_l_markWaiterS (w : World) (x7822 : List Waiter) (p7824 : Option Addr) (c7825 : Nat) (sg7826 : Seg) (ho7827 : ownS encWaiter x7822 p7824 c7825 sg7826) (x7828 : Int) (hA : ∀ q ∈ List.flatten [sg7826], w.heap[q.1]? = some q.2) (hN : (idsOf [sg7826]).Nodup) {r : Int × (List Waiter)} (hm : M.l_markWaiterS x7822 x7828 = some r) :
    Calls Tryz.prog 126 #[.slice p7824 x7822.length c7825, .int .i64 x7828] w fun e w' => ∃ (sg7829 : Seg), e = .returned (.int .i64 r.1) ∧ ownS encWaiter r.2 p7824 c7825 sg7829 ∧ r.2.length = x7822.length ∧ Mem (idsOf [sg7826]) w w' [sg7829] := by
  unfold M.l_markWaiterS at hm
  refine C_enter Tryz.func126 rfl (by kernel_rfl) ?_
  have M0 := Mem.start' w [sg7826] hA hN
  refine G_seq ?_
  refine G_region ?_
  refine W_run 1 [(0, .slice p7824 x7822.length c7825), (1, .int .i64 x7828)] w (by kernel_rfl) ?_
  refine W_nil ?_
  refine N_then ?_
  refine G_seq ?_
  refine G_seq ?_
  refine G_region ?_
  refine W_run 1 [(0, .slice p7824 x7822.length c7825), (1, .int .i64 x7828), (5, .int .i64 0)] w (by kernel_rfl) ?_
  refine W_nil ?_
  refine N_then ?_
  obtain ⟨out7862, hw7863, hmo7864⟩ := gx_bind hm
  refine G_meet (fun a w' => ∃ (sg7869 : Seg), ownS encWaiter out7862.2 p7824 c7825 sg7869 ∧ out7862.2.length = x7822.length ∧ Mem (idsOf [sg7826]) w w' [sg7869] ∧ Sat Tryz.f126.ntmps [(1, .int .i64 out7862.1)] a) ?_ ?_
  · refine G_block ?_
    refine G_while (σ := Int × Int × List Waiter) (ρ := Int × List Waiter) (fun s7855 a w' => ∃ (sg7865 : Seg), ownS encWaiter s7855.2.2 p7824 c7825 sg7865 ∧ s7855.2.2.length = x7822.length ∧ Mem (idsOf [sg7826]) w w' [sg7865] ∧ Sat Tryz.f126.ntmps [(0, .slice p7824 s7855.2.2.length c7825), (1, .int .i64 s7855.1), (5, .int .i64 s7855.2.1)] a) hw7863 (fun a ha => ⟨sg7826, ho7827, rfl, M0.pick [0] (by kernel_rfl), ha.sub (by kernel_rfl)⟩) ?_
    clear hm
    intro s7855 x7856 hm hout7857 a7858 w7859 ⟨sg7865, ho7866, hl7867, M7860, hS7861⟩
    refine G_use hS7861 ?_
    refine G_seq ?_
    refine G_seq ?_
    refine G_region ?_
    refine W_run 4 [(0, .slice p7824 s7855.2.2.length c7825), (1, .int .i64 s7855.1), (5, .int .i64 s7855.2.1), (9, .bool (decide (s7855.2.1 < (s7855.2.2.length : Int))))] w7859 (by kernel_rfl) ?_
    refine W_nil ?_
    refine N_then ?_
    rcases gx_bif hm with ⟨hc7872, hm⟩ | ⟨hc7872, hm⟩
    · refine G_cond_t (b := (decide (s7855.2.1 < (s7855.2.2.length : Int)))) hc7872 (by kernel_rfl) ?_
      refine G_skip ?_
      refine N_then ?_
      refine G_seq ?_
      refine G_block ?_
      refine G_seq ?_
      refine G_region ?_
      refine W_run 3 [(0, .slice p7824 s7855.2.2.length c7825), (1, .int .i64 s7855.1), (5, .int .i64 s7855.2.1), (12, .slice p7824 s7855.2.2.length c7825), (13, .int .i64 s7855.2.1), (14, .int .i64 s7855.1)] w7859 (by kernel_rfl) ?_
      obtain ⟨y7873, hy7873, hm⟩ := gx_bind hm
      refine W_val (elemP p7824 (s7855.2.1.toNat * 2)) w7859 (by kernel_rfl) (E_index (E := encWaiter) _ _ _ s7855.2.2.length c7825 .i64 s7855.2.1 2 (y := y7873) rfl (by kernel_rfl) (by kernel_rfl) (by kernel_rfl) (ho7866.rd M7860 0 (by kernel_rfl)) rfl hy7873) ?_
      refine W_val (elemP p7824 (s7855.2.1.toNat * 2 + 0)) w7859 (by kernel_rfl) (E_fieldE (E := encWaiter) _ _ 0 (s7855.2.1.toNat * 2) 0 rfl (by kernel_rfl) (by kernel_rfl) (ho7866.rd M7860 0 (by kernel_rfl)) hy7873) ?_
      refine W_storeE (E := encWaiter) _ _ _ false 1 s7855.2.1.toNat 0 (s7855.2.1.toNat * 2 + 0) y7873 (⟨s7855.1, y7873.Priority⟩ : Waiter) (.int .i64 s7855.1) 0 M7860 ho7866 (by kernel_rfl) (by kernel_rfl) rfl (by kernel_rfl) (by kernel_rfl) (by kernel_rfl) (by kernel_rfl) (by kernel_rfl) (by kernel_rfl) (by kernel_rfl) (gxIdx_spec hy7873).2 rfl ?_
      intro w7874 sg7876 ho7877 M7875
      refine W_conv 0 (.slice p7824 s7855.2.2.length c7825) (.slice p7824 (s7855.2.2.set s7855.2.1.toNat (⟨s7855.1, y7873.Priority⟩ : Waiter)).length c7825) (by kernel_rfl) (by rw [@List.length_set _ s7855.2.2 s7855.2.1.toNat (⟨s7855.1, y7873.Priority⟩ : Waiter)]) ?_
      refine W_conv 12 (.slice p7824 s7855.2.2.length c7825) (.slice p7824 (s7855.2.2.set s7855.2.1.toNat (⟨s7855.1, y7873.Priority⟩ : Waiter)).length c7825) (by kernel_rfl) (by rw [@List.length_set _ s7855.2.2 s7855.2.1.toNat (⟨s7855.1, y7873.Priority⟩ : Waiter)]) ?_
      refine W_nil ?_
      refine N_then ?_
      refine G_seq ?_
      refine G_region ?_
      refine W_run 3 [(0, .slice p7824 (s7855.2.2.set s7855.2.1.toNat (⟨s7855.1, y7873.Priority⟩ : Waiter)).length c7825), (1, .int .i64 (w64 (s7855.1 + 1))), (5, .int .i64 s7855.2.1)] w7874 (by kernel_rfl) ?_
      refine W_nil ?_
      refine N_then ?_
      refine G_seq ?_
      refine G_region ?_
      refine W_run 3 [(0, .slice p7824 (s7855.2.2.set s7855.2.1.toNat (⟨s7855.1, y7873.Priority⟩ : Waiter)).length c7825), (1, .int .i64 (w64 (s7855.1 + 1))), (5, .int .i64 s7855.2.1), (19, .slice p7824 (s7855.2.2.set s7855.2.1.toNat (⟨s7855.1, y7873.Priority⟩ : Waiter)).length c7825), (20, .int .i64 s7855.2.1), (21, .int .i64 (w64 (s7855.1 + 1)))] w7874 (by kernel_rfl) ?_
      obtain ⟨y7878, hy7878, hm⟩ := gx_bind hm
      refine W_val (elemP p7824 (s7855.2.1.toNat * 2)) w7874 (by kernel_rfl) (E_index (E := encWaiter) _ _ _ (s7855.2.2.set s7855.2.1.toNat (⟨s7855.1, y7873.Priority⟩ : Waiter)).length c7825 .i64 s7855.2.1 2 (y := y7878) rfl (by kernel_rfl) (by kernel_rfl) (by kernel_rfl) (ho7877.rd M7875 0 (by kernel_rfl)) rfl hy7878) ?_
      refine W_val (elemP p7824 (s7855.2.1.toNat * 2 + 1)) w7874 (by kernel_rfl) (E_fieldE (E := encWaiter) _ _ 1 (s7855.2.1.toNat * 2) 1 rfl (by kernel_rfl) (by kernel_rfl) (ho7877.rd M7875 0 (by kernel_rfl)) hy7878) ?_
      refine W_storeE (E := encWaiter) _ _ _ false 1 s7855.2.1.toNat 1 (s7855.2.1.toNat * 2 + 1) y7878 (⟨y7878.Irq, w64 (s7855.1 + 1)⟩ : Waiter) (.int .i64 (w64 (s7855.1 + 1))) 0 M7875 ho7877 (by kernel_rfl) (by kernel_rfl) rfl (by kernel_rfl) (by kernel_rfl) (by kernel_rfl) (by kernel_rfl) (by kernel_rfl) (by kernel_rfl) (by kernel_rfl) (gxIdx_spec hy7878).2 rfl ?_
      intro w7879 sg7881 ho7882 M7880
      refine W_conv 0 (.slice p7824 (s7855.2.2.set s7855.2.1.toNat (⟨s7855.1, y7873.Priority⟩ : Waiter)).length c7825) (.slice p7824 ((s7855.2.2.set s7855.2.1.toNat (⟨s7855.1, y7873.Priority⟩ : Waiter)).set s7855.2.1.toNat (⟨y7878.Irq, w64 (s7855.1 + 1)⟩ : Waiter)).length c7825) (by kernel_rfl) (by rw [@List.length_set _ (s7855.2.2.set s7855.2.1.toNat (⟨s7855.1, y7873.Priority⟩ : Waiter)) s7855.2.1.toNat (⟨y7878.Irq, w64 (s7855.1 + 1)⟩ : Waiter)]) ?_
      refine W_conv 19 (.slice p7824 (s7855.2.2.set s7855.2.1.toNat (⟨s7855.1, y7873.Priority⟩ : Waiter)).length c7825) (.slice p7824 ((s7855.2.2.set s7855.2.1.toNat (⟨s7855.1, y7873.Priority⟩ : Waiter)).set s7855.2.1.toNat (⟨y7878.Irq, w64 (s7855.1 + 1)⟩ : Waiter)).length c7825) (by kernel_rfl) (by rw [@List.length_set _ (s7855.2.2.set s7855.2.1.toNat (⟨s7855.1, y7873.Priority⟩ : Waiter)) s7855.2.1.toNat (⟨y7878.Irq, w64 (s7855.1 + 1)⟩ : Waiter)]) ?_
      refine W_nil ?_
      refine N_then ?_
      refine G_region ?_
      refine W_run 3 [(0, .slice p7824 ((s7855.2.2.set s7855.2.1.toNat (⟨s7855.1, y7873.Priority⟩ : Waiter)).set s7855.2.1.toNat (⟨y7878.Irq, w64 (s7855.1 + 1)⟩ : Waiter)).length c7825), (1, .int .i64 (w64 ((w64 (s7855.1 + 1)) + 1))), (5, .int .i64 s7855.2.1)] w7879 (by kernel_rfl) ?_
      refine W_nil ?_
      refine N_block ?_
      refine N_then ?_
      refine G_region ?_
      refine W_run 3 [(0, .slice p7824 ((s7855.2.2.set s7855.2.1.toNat (⟨s7855.1, y7873.Priority⟩ : Waiter)).set s7855.2.1.toNat (⟨y7878.Irq, w64 (s7855.1 + 1)⟩ : Waiter)).length c7825), (1, .int .i64 (w64 ((w64 (s7855.1 + 1)) + 1))), (5, .int .i64 (w64 (s7855.2.1 + 1)))] w7879 (by kernel_rfl) ?_
      refine W_nil ?_
      obtain rfl := Option.some.inj hm
      exact N_loop fun a ha => ⟨_, rfl, sg7881, ho7882, (List.length_set.trans (List.length_set.trans hl7867)), M7880.pick [0] (by kernel_rfl), ha.sub (by kernel_rfl)⟩
    · refine G_cond_f (b := (decide (s7855.2.1 < (s7855.2.2.length : Int)))) hc7872 (by kernel_rfl) ?_
      refine G_exit ?_
      refine N_then_exit ?_
      refine N_then_exit ?_
      refine N_block_eq ?_
      obtain rfl := Option.some.inj hm
      obtain rfl := hout7857 _ rfl
      exact N_meet fun a ha => ⟨sg7865, ho7866, hl7867, M7860.pick [0] (by kernel_rfl), ha.sub (by kernel_rfl)⟩
  · intro a7883 w7884 ⟨sg7869, ho7870, hl7871, M7885, hS7886⟩
    refine N_use hS7886 ?_
    have hm := hmo7864
    refine N_then ?_
    refine G_seq ?_
    refine G_region ?_
    refine W_run 2 [(4, .int .i64 out7862.1)] w7884 (by kernel_rfl) ?_
    refine W_nil ?_
    refine N_then ?_
    refine G_ret ?_
    obtain rfl := Option.some.inj hm
    refine N_ret [.int .i64 out7862.1] (RVs_cons (RV_tmp (by kernel_rfl)) RVs_nil) ?_
    exact ⟨sg7869, rfl, ho7870, hl7871, M7885.pick [0] (by kernel_rfl)⟩
theorem c_l_markInterfaceS (w : World) (x7554 : List Interface) (p7556 : Option Addr) (c7557 : Nat) (sg7558 : Seg) (sg7559 : Seg) (ho7560 : ownD deepInterface x7554 p7556 c7557 sg7558 sg7559) (x7561 : Int) (hA : ∀ q ∈ List.flatten [sg7558, sg7559], w.heap[q.1]? = some q.2) (hN : (idsOf [sg7558, sg7559]).Nodup) {r : Int × (List Interface)} (hm : M.l_markInterfaceS x7554 x7561 = some r) :
    Calls Tryz.prog 70 #[.slice p7556 x7554.length c7557, .int .i64 x7561] w fun e w' => ∃ (sg7562 : Seg) (sg7563 : Seg), e = .returned (.int .i64 r.1) ∧ ownD deepInterface r.2 p7556 c7557 sg7562 sg7563 ∧ r.2.length = x7554.length ∧ Mem (idsOf [sg7558, sg7559]) w w' [sg7562, sg7563] := by
  unfold M.l_markInterfaceS at hm
  refine C_enter Tryz.func70 rfl (by kernel_rfl) ?_
  have M0 := Mem.start' w [sg7558, sg7559] hA hN
  refine G_seq ?_
  refine G_region ?_
  refine W_run 1 [(0, .slice p7556 x7554.length c7557), (1, .int .i64 x7561)] w (by kernel_rfl) ?_
  refine W_nil ?_
  refine N_then ?_
  refine G_seq ?_
  refine G_seq ?_
  refine G_region ?_
  refine W_run 1 [(0, .slice p7556 x7554.length c7557), (1, .int .i64 x7561), (5, .int .i64 0)] w (by kernel_rfl) ?_
  refine W_nil ?_
  refine N_then ?_
  obtain ⟨out8108, hw8109, hmo8110⟩ := gx_bind hm
  refine G_meet (fun a w' => ∃ (sg8116 : Seg), ∃ (sg8117 : Seg), ownD deepInterface out8108.2 p7556 c7557 sg8116 sg8117 ∧ out8108.2.length = x7554.length ∧ Mem (idsOf [sg7558, sg7559]) w w' [sg8116, sg8117] ∧ Sat Tryz.f70.ntmps [(1, .int .i64 out8108.1)] a) ?_ ?_
  · refine G_block ?_
    refine G_while (σ := Int × Int × List Interface) (ρ := Int × List Interface) (fun s8101 a w' => ∃ (sg8111 : Seg), ∃ (sg8112 : Seg), ownD deepInterface s8101.2.2 p7556 c7557 sg8111 sg8112 ∧ s8101.2.2.length = x7554.length ∧ Mem (idsOf [sg7558, sg7559]) w w' [sg8111, sg8112] ∧ Sat Tryz.f70.ntmps [(0, .slice p7556 s8101.2.2.length c7557), (1, .int .i64 s8101.1), (5, .int .i64 s8101.2.1)] a) hw8109 (fun a ha => ⟨sg7558, sg7559, ho7560, rfl, M0.pick [0, 1] (by kernel_rfl), ha.sub (by kernel_rfl)⟩) ?_
    clear hm
    intro s8101 x8102 hm hout8103 a8104 w8105 ⟨sg8111, sg8112, ho8113, hl8114, M8106, hS8107⟩
    refine G_use hS8107 ?_
    refine G_seq ?_
    refine G_seq ?_
    refine G_region ?_
    refine W_run 4 [(0, .slice p7556 s8101.2.2.length c7557), (1, .int .i64 s8101.1), (5, .int .i64 s8101.2.1), (9, .bool (decide (s8101.2.1 < (s8101.2.2.length : Int))))] w8105 (by kernel_rfl) ?_
    refine W_nil ?_
    refine N_then ?_
    rcases gx_bif hm with ⟨hc8120, hm⟩ | ⟨hc8120, hm⟩
    · refine G_cond_t (b := (decide (s8101.2.1 < (s8101.2.2.length : Int)))) hc8120 (by kernel_rfl) ?_
      refine G_skip ?_
      refine N_then ?_
      refine G_seq ?_
      refine G_block ?_
      refine G_seq ?_
      refine G_region ?_
      refine W_run 3 [(0, .slice p7556 s8101.2.2.length c7557), (1, .int .i64 s8101.1), (5, .int .i64 s8101.2.1), (12, .slice p7556 s8101.2.2.length c7557), (13, .int .i64 s8101.2.1), (14, .int .i64 s8101.1)] w8105 (by kernel_rfl) ?_
      obtain ⟨y8121, hy8121, hm⟩ := gx_bind hm
      obtain ⟨zs8122, hz8123, hr8124, hi8125⟩ := id ho8113
      obtain ⟨g8126, hg8127⟩ := gxIdx_fst hz8123 hy8121
      refine W_val (elemP p7556 (s8101.2.1.toNat * 4)) w8105 (by kernel_rfl) (E_index (E := deepInterface.E) _ _ _ s8101.2.2.length c7557 .i64 s8101.2.1 4 (y := (y8121, g8126)) rfl (by kernel_rfl) (by kernel_rfl) (by kernel_rfl) (hr8124.rd M8106 0 (by kernel_rfl)) (len_fst hz8123) hg8127) ?_
      refine W_val (elemP p7556 (s8101.2.1.toNat * 4 + 0)) w8105 (by kernel_rfl) (E_fieldE (E := deepInterface.E) _ _ 0 (s8101.2.1.toNat * 4) 0 rfl (by kernel_rfl) (by kernel_rfl) (hr8124.rd M8106 0 (by kernel_rfl)) hg8127) ?_
      refine W_storeE (E := deepInterface.E) _ _ _ false 1 s8101.2.1.toNat 0 (s8101.2.1.toNat * 4 + 0) (y8121, g8126) ((⟨s8101.1, y8121.Stack, (⟨y8121.Queue.Slots, y8121.Queue.Waiting⟩ : Queue)⟩ : Interface), g8126) (.int .i64 s8101.1) 0 M8106 hr8124 (by kernel_rfl) (by kernel_rfl) rfl (by kernel_rfl) (by kernel_rfl) (by kernel_rfl) (by kernel_rfl) (by kernel_rfl) (by kernel_rfl) (by kernel_rfl) (gxIdx_spec hg8127).2 rfl ?_
      intro w8131 sg8133 ho8134 M8132
      have ho8135 : ownD deepInterface (s8101.2.2.set s8101.2.1.toNat (⟨s8101.1, y8121.Stack, (⟨y8121.Queue.Slots, y8121.Queue.Waiting⟩ : Queue)⟩ : Interface)) p7556 c7557 sg8133 sg8112 := ⟨_, set_fst hz8123 s8101.2.1.toNat ((⟨s8101.1, y8121.Stack, (⟨y8121.Queue.Slots, y8121.Queue.Waiting⟩ : Queue)⟩ : Interface), g8126), ho8134, (by rw [flatMap_setSame (gxIdx_spec hg8127).2 (by kernel_rfl)]; exact hi8125)⟩
      refine W_conv 0 (.slice p7556 s8101.2.2.length c7557) (.slice p7556 (s8101.2.2.set s8101.2.1.toNat (⟨s8101.1, y8121.Stack, (⟨y8121.Queue.Slots, y8121.Queue.Waiting⟩ : Queue)⟩ : Interface)).length c7557) (by kernel_rfl) (by rw [@List.length_set _ s8101.2.2 s8101.2.1.toNat (⟨s8101.1, y8121.Stack, (⟨y8121.Queue.Slots, y8121.Queue.Waiting⟩ : Queue)⟩ : Interface)]) ?_
      refine W_conv 12 (.slice p7556 s8101.2.2.length c7557) (.slice p7556 (s8101.2.2.set s8101.2.1.toNat (⟨s8101.1, y8121.Stack, (⟨y8121.Queue.Slots, y8121.Queue.Waiting⟩ : Queue)⟩ : Interface)).length c7557) (by kernel_rfl) (by rw [@List.length_set _ s8101.2.2 s8101.2.1.toNat (⟨s8101.1, y8121.Stack, (⟨y8121.Queue.Slots, y8121.Queue.Waiting⟩ : Queue)⟩ : Interface)]) ?_
      refine W_nil ?_
      refine N_then ?_
      refine G_seq ?_
      refine G_region ?_
      refine W_run 3 [(0, .slice p7556 (s8101.2.2.set s8101.2.1.toNat (⟨s8101.1, y8121.Stack, (⟨y8121.Queue.Slots, y8121.Queue.Waiting⟩ : Queue)⟩ : Interface)).length c7557), (1, .int .i64 (w64 (s8101.1 + 1))), (5, .int .i64 s8101.2.1)] w8131 (by kernel_rfl) ?_
      refine W_nil ?_
      refine N_then ?_
      refine G_seq ?_
      refine G_region ?_
      refine W_run 2 [(0, .slice p7556 (s8101.2.2.set s8101.2.1.toNat (⟨s8101.1, y8121.Stack, (⟨y8121.Queue.Slots, y8121.Queue.Waiting⟩ : Queue)⟩ : Interface)).length c7557), (1, .int .i64 (w64 (s8101.1 + 1))), (5, .int .i64 s8101.2.1), (19, .slice p7556 (s8101.2.2.set s8101.2.1.toNat (⟨s8101.1, y8121.Stack, (⟨y8121.Queue.Slots, y8121.Queue.Waiting⟩ : Queue)⟩ : Interface)).length c7557), (20, .int .i64 s8101.2.1)] w8131 (by kernel_rfl) ?_
      obtain ⟨y8136, hy8136, hm⟩ := gx_bind hm
      obtain ⟨zs8137, hz8138, hr8139, hi8140⟩ := id ho8135
      obtain ⟨g8141, hg8142⟩ := gxIdx_fst hz8138 hy8136
      refine W_val (elemP p7556 (s8101.2.1.toNat * 4)) w8131 (by kernel_rfl) (E_index (E := deepInterface.E) _ _ _ (s8101.2.2.set s8101.2.1.toNat (⟨s8101.1, y8121.Stack, (⟨y8121.Queue.Slots, y8121.Queue.Waiting⟩ : Queue)⟩ : Interface)).length c7557 .i64 s8101.2.1 4 (y := (y8136, g8141)) rfl (by kernel_rfl) (by kernel_rfl) (by kernel_rfl) (hr8139.rd M8132 0 (by kernel_rfl)) (len_fst hz8138) hg8142) ?_
      refine W_val (elemP p7556 (s8101.2.1.toNat * 4 + 1)) w8131 (by kernel_rfl) (E_fieldE (E := deepInterface.E) _ _ 1 (s8101.2.1.toNat * 4) 1 rfl (by kernel_rfl) (by kernel_rfl) (hr8139.rd M8132 0 (by kernel_rfl)) hg8142) ?_
      refine W_val (.slice ((g8141 0).1) y8136.Stack.length ((g8141 0).2)) w8131 (by kernel_rfl) (E_loadE (E := deepInterface.E) _ _ false 1 s8101.2.1 1 (s8101.2.1.toNat * 4 + 1) (y8136, g8141) (.slice ((g8141 0).1) y8136.Stack.length ((g8141 0).2)) rfl (by kernel_rfl) (by kernel_rfl) (by kernel_rfl) (hr8139.rd M8132 0 (by kernel_rfl)) hg8142 rfl) ?_
      refine W_run 1 [(0, .slice p7556 (s8101.2.2.set s8101.2.1.toNat (⟨s8101.1, y8121.Stack, (⟨y8121.Queue.Slots, y8121.Queue.Waiting⟩ : Queue)⟩ : Interface)).length c7557), (1, .int .i64 (w64 (s8101.1 + 1))), (5, .int .i64 s8101.2.1), (23, .slice ((g8141 0).1) y8136.Stack.length ((g8141 0).2)), (24, .int .i64 (w64 (s8101.1 + 1)))] w8131 (by kernel_rfl) ?_
      obtain ⟨sa8147, sb8148, sc8149, hs8150, hb8151, hp8152⟩ := hi8140.lens (gxIdx_spec hg8142).2
      have M8153 := M8132.cut 1 (sa := sa8147) (sb := sb8148) (sc := sc8149) hs8150 (by kernel_rfl)
      obtain ⟨u8154, r8155, hu8156, ho8157, hr8158⟩ := hb8151
      have M8159 := M8153.cut 2 (sa := []) (sb := u8154) (sc := r8155) hu8156 (by kernel_rfl)
      obtain ⟨u8161, r8162, hu8163, ho8164, hr8165⟩ := hr8158
      have M8166 := M8159.cut 5 (sa := []) (sb := u8161) (sc := r8162) hu8163 (by kernel_rfl)
      obtain ⟨u8168, r8169, hu8170, ho8171, hr8172⟩ := hr8165
      have M8173 := M8166.cut 7 (sa := []) (sb := u8168) (sc := r8169) hu8170 (by kernel_rfl)
      obtain ⟨r8146, hr8146, hm⟩ := gx_bind hm
      refine W_call 21 #[.slice ((g8141 0).1) y8136.Stack.length ((g8141 0).2), .int .i64 (w64 (s8101.1 + 1))] (by kernel_rfl) (by kernel_rfl) ?_
      refine (c_l_markIntS w8131 y8136.Stack ((g8141 0).1) ((g8141 0).2) u8154 ho8157 (w64 (s8101.1 + 1)) (M8173.hasPick [4]) (M8173.nodupPick [4] (by kernel_rfl)) hr8146).mono ?_
      rintro e_ w8178 ⟨sg8175, rfl, ho8176, hl8177, K8179⟩
      have M8180 := M8173.callF' [4] [0, 1, 2, 3, 5, 6, 7, 8, 9] (by kernel_rfl) K8179
      refine ⟨_, rfl, ?_⟩
      refine W_conv 23 (.slice ((g8141 0).1) y8136.Stack.length ((g8141 0).2)) (.slice ((g8141 0).1) r8146.2.length ((g8141 0).2)) (by kernel_rfl) (by first | rw [hl8177] | rw [hl8177]) ?_
      have M8184 : Mem (idsOf [sg7558, sg7559]) w w8178 [sg8133, [], [], [], sa8147, sg8175, u8161, u8168, sc8149] := M8180.pick [0, 2, 4, 6, 1, 9, 5, 7, 3] (by kernel_rfl)
      have M8185 : Mem (idsOf [sg7558, sg7559]) w w8178 [sg8133, [], [], [], (sa8147 ++ ((sg8175 ++ (u8161 ++ (u8168 ++ []))) ++ sc8149))] := M8184.regroup (by simp)
      have ho8186 : ownD deepInterface ((s8101.2.2.set s8101.2.1.toNat (⟨s8101.1, y8121.Stack, (⟨y8121.Queue.Slots, y8121.Queue.Waiting⟩ : Queue)⟩ : Interface)).set s8101.2.1.toNat (⟨y8136.Mask, r8146.2, (⟨y8136.Queue.Slots, y8136.Queue.Waiting⟩ : Queue)⟩ : Interface)) p7556 c7557 sg8133 (sa8147 ++ ((sg8175 ++ (u8161 ++ (u8168 ++ []))) ++ sc8149)) := ⟨_, set_fst hz8138 s8101.2.1.toNat ((⟨y8136.Mask, r8146.2, (⟨y8136.Queue.Slots, y8136.Queue.Waiting⟩ : Queue)⟩ : Interface), g8141), (hr8139.setSame (z' := ((⟨y8136.Mask, r8146.2, (⟨y8136.Queue.Slots, y8136.Queue.Waiting⟩ : Queue)⟩ : Interface), g8141)) (gxIdx_spec hg8142).2 (by show ([.int .i64 y8136.Mask, .slice ((g8141 0).1) r8146.2.length ((g8141 0).2), .slice ((g8141 1).1) y8136.Queue.Slots.length ((g8141 1).2), .slice ((g8141 2).1) y8136.Queue.Waiting.length ((g8141 2).2)] : List Value) = [.int .i64 y8136.Mask, .slice ((g8141 0).1) y8136.Stack.length ((g8141 0).2), .slice ((g8141 1).1) y8136.Queue.Slots.length ((g8141 1).2), .slice ((g8141 2).1) y8136.Queue.Waiting.length ((g8141 2).2)]; rw [hl8177])), hp8152 ((⟨y8136.Mask, r8146.2, (⟨y8136.Queue.Slots, y8136.Queue.Waiting⟩ : Queue)⟩ : Interface), g8141) _ (ownI_cons (i := ⟨Int, Gx.encI, _, _, _⟩) ho8176 (ownI_cons (i := ⟨Slot, encSlot, _, _, _⟩) ho8164 (ownI_cons (i := ⟨Waiter, encWaiter, _, _, _⟩) ho8171 ownI_nil)))⟩
      refine W_conv 0 (.slice p7556 (s8101.2.2.set s8101.2.1.toNat (⟨s8101.1, y8121.Stack, (⟨y8121.Queue.Slots, y8121.Queue.Waiting⟩ : Queue)⟩ : Interface)).length c7557) (.slice p7556 ((s8101.2.2.set s8101.2.1.toNat (⟨s8101.1, y8121.Stack, (⟨y8121.Queue.Slots, y8121.Queue.Waiting⟩ : Queue)⟩ : Interface)).set s8101.2.1.toNat (⟨y8136.Mask, r8146.2, (⟨y8136.Queue.Slots, y8136.Queue.Waiting⟩ : Queue)⟩ : Interface)).length c7557) (by kernel_rfl) (by rw [@List.length_set _ (s8101.2.2.set s8101.2.1.toNat (⟨s8101.1, y8121.Stack, (⟨y8121.Queue.Slots, y8121.Queue.Waiting⟩ : Queue)⟩ : Interface)) s8101.2.1.toNat (⟨y8136.Mask, r8146.2, (⟨y8136.Queue.Slots, y8136.Queue.Waiting⟩ : Queue)⟩ : Interface)]) ?_
      refine W_run 1 [(0, .slice p7556 ((s8101.2.2.set s8101.2.1.toNat (⟨s8101.1, y8121.Stack, (⟨y8121.Queue.Slots, y8121.Queue.Waiting⟩ : Queue)⟩ : Interface)).set s8101.2.1.toNat (⟨y8136.Mask, r8146.2, (⟨y8136.Queue.Slots, y8136.Queue.Waiting⟩ : Queue)⟩ : Interface)).length c7557), (1, .int .i64 r8146.1), (5, .int .i64 s8101.2.1)] w8178 (by kernel_rfl) ?_
      refine W_nil ?_
      refine N_then ?_
      refine G_seq ?_
      refine G_region ?_
      refine W_run 2 [(0, .slice p7556 ((s8101.2.2.set s8101.2.1.toNat (⟨s8101.1, y8121.Stack, (⟨y8121.Queue.Slots, y8121.Queue.Waiting⟩ : Queue)⟩ : Interface)).set s8101.2.1.toNat (⟨y8136.Mask, r8146.2, (⟨y8136.Queue.Slots, y8136.Queue.Waiting⟩ : Queue)⟩ : Interface)).length c7557), (1, .int .i64 r8146.1), (5, .int .i64 s8101.2.1), (26, .slice p7556 ((s8101.2.2.set s8101.2.1.toNat (⟨s8101.1, y8121.Stack, (⟨y8121.Queue.Slots, y8121.Queue.Waiting⟩ : Queue)⟩ : Interface)).set s8101.2.1.toNat (⟨y8136.Mask, r8146.2, (⟨y8136.Queue.Slots, y8136.Queue.Waiting⟩ : Queue)⟩ : Interface)).length c7557), (27, .int .i64 s8101.2.1)] w8178 (by kernel_rfl) ?_
      obtain ⟨y8187, hy8187, hm⟩ := gx_bind hm
      obtain ⟨zs8188, hz8189, hr8190, hi8191⟩ := id ho8186
      obtain ⟨g8192, hg8193⟩ := gxIdx_fst hz8189 hy8187
      refine W_val (elemP p7556 (s8101.2.1.toNat * 4)) w8178 (by kernel_rfl) (E_index (E := deepInterface.E) _ _ _ ((s8101.2.2.set s8101.2.1.toNat (⟨s8101.1, y8121.Stack, (⟨y8121.Queue.Slots, y8121.Queue.Waiting⟩ : Queue)⟩ : Interface)).set s8101.2.1.toNat (⟨y8136.Mask, r8146.2, (⟨y8136.Queue.Slots, y8136.Queue.Waiting⟩ : Queue)⟩ : Interface)).length c7557 .i64 s8101.2.1 4 (y := (y8187, g8192)) rfl (by kernel_rfl) (by kernel_rfl) (by kernel_rfl) (hr8190.rd M8185 0 (by kernel_rfl)) (len_fst hz8189) hg8193) ?_
      refine W_val (elemP p7556 (s8101.2.1.toNat * 4 + 2)) w8178 (by kernel_rfl) (E_fieldE (E := deepInterface.E) _ _ 2 (s8101.2.1.toNat * 4) 2 rfl (by kernel_rfl) (by kernel_rfl) (hr8190.rd M8185 0 (by kernel_rfl)) hg8193) ?_
      refine W_val (elemP p7556 (s8101.2.1.toNat * 4 + 2 + 0)) w8178 (by kernel_rfl) (E_fieldE (E := deepInterface.E) _ _ 0 (s8101.2.1.toNat * 4 + 2) 0 rfl (by kernel_rfl) (by kernel_rfl) (hr8190.rd M8185 0 (by kernel_rfl)) hg8193) ?_
      refine W_val (.slice ((g8192 1).1) y8187.Queue.Slots.length ((g8192 1).2)) w8178 (by kernel_rfl) (E_loadE (E := deepInterface.E) _ _ false 1 s8101.2.1 2 (s8101.2.1.toNat * 4 + 2 + 0) (y8187, g8192) (.slice ((g8192 1).1) y8187.Queue.Slots.length ((g8192 1).2)) rfl (by kernel_rfl) (by kernel_rfl) (by kernel_rfl) (hr8190.rd M8185 0 (by kernel_rfl)) hg8193 rfl) ?_
      refine W_run 1 [(0, .slice p7556 ((s8101.2.2.set s8101.2.1.toNat (⟨s8101.1, y8121.Stack, (⟨y8121.Queue.Slots, y8121.Queue.Waiting⟩ : Queue)⟩ : Interface)).set s8101.2.1.toNat (⟨y8136.Mask, r8146.2, (⟨y8136.Queue.Slots, y8136.Queue.Waiting⟩ : Queue)⟩ : Interface)).length c7557), (1, .int .i64 r8146.1), (5, .int .i64 s8101.2.1), (31, .slice ((g8192 1).1) y8187.Queue.Slots.length ((g8192 1).2)), (32, .int .i64 r8146.1)] w8178 (by kernel_rfl) ?_
      obtain ⟨sa8198, sb8199, sc8200, hs8201, hb8202, hp8203⟩ := hi8191.lens (gxIdx_spec hg8193).2
      have M8204 := M8185.cut 4 (sa := sa8198) (sb := sb8199) (sc := sc8200) hs8201 (by kernel_rfl)
      obtain ⟨u8205, r8206, hu8207, ho8208, hr8209⟩ := hb8202
      have M8210 := M8204.cut 5 (sa := []) (sb := u8205) (sc := r8206) hu8207 (by kernel_rfl)
      obtain ⟨u8212, r8213, hu8214, ho8215, hr8216⟩ := hr8209
      have M8217 := M8210.cut 8 (sa := []) (sb := u8212) (sc := r8213) hu8214 (by kernel_rfl)
      obtain ⟨u8219, r8220, hu8221, ho8222, hr8223⟩ := hr8216
      have M8224 := M8217.cut 10 (sa := []) (sb := u8219) (sc := r8220) hu8221 (by kernel_rfl)
      obtain ⟨r8197, hr8197, hm⟩ := gx_bind hm
      refine W_call 125 #[.slice ((g8192 1).1) y8187.Queue.Slots.length ((g8192 1).2), .int .i64 r8146.1] (by kernel_rfl) (by kernel_rfl) ?_
      refine (c_l_markSlotS w8178 y8187.Queue.Slots ((g8192 1).1) ((g8192 1).2) u8212 ho8215 r8146.1 (M8224.hasPick [9]) (M8224.nodupPick [9] (by kernel_rfl)) hr8197).mono ?_
      rintro e_ w8229 ⟨sg8226, rfl, ho8227, hl8228, K8230⟩
      have M8231 := M8224.callF' [9] [0, 1, 2, 3, 4, 5, 6, 7, 8, 10, 11, 12] (by kernel_rfl) K8230
      refine ⟨_, rfl, ?_⟩
      refine W_conv 31 (.slice ((g8192 1).1) y8187.Queue.Slots.length ((g8192 1).2)) (.slice ((g8192 1).1) r8197.2.length ((g8192 1).2)) (by kernel_rfl) (by first | rw [hl8228] | rw [hl8228]) ?_
      have M8235 : Mem (idsOf [sg7558, sg7559]) w w8229 [sg8133, [], [], [], [], [], [], sa8198, u8205, sg8226, u8219, sc8200] := M8231.pick [0, 1, 2, 3, 5, 8, 9, 4, 7, 12, 10, 6] (by kernel_rfl)
      have M8236 : Mem (idsOf [sg7558, sg7559]) w w8229 [sg8133, [], [], [], [], [], [], (sa8198 ++ ((u8205 ++ (sg8226 ++ (u8219 ++ []))) ++ sc8200))] := M8235.regroup (by simp)
      have ho8237 : ownD deepInterface (((s8101.2.2.set s8101.2.1.toNat (⟨s8101.1, y8121.Stack, (⟨y8121.Queue.Slots, y8121.Queue.Waiting⟩ : Queue)⟩ : Interface)).set s8101.2.1.toNat (⟨y8136.Mask, r8146.2, (⟨y8136.Queue.Slots, y8136.Queue.Waiting⟩ : Queue)⟩ : Interface)).set s8101.2.1.toNat (⟨y8187.Mask, y8187.Stack, (⟨r8197.2, y8187.Queue.Waiting⟩ : Queue)⟩ : Interface)) p7556 c7557 sg8133 (sa8198 ++ ((u8205 ++ (sg8226 ++ (u8219 ++ []))) ++ sc8200)) := ⟨_, set_fst hz8189 s8101.2.1.toNat ((⟨y8187.Mask, y8187.Stack, (⟨r8197.2, y8187.Queue.Waiting⟩ : Queue)⟩ : Interface), g8192), (hr8190.setSame (z' := ((⟨y8187.Mask, y8187.Stack, (⟨r8197.2, y8187.Queue.Waiting⟩ : Queue)⟩ : Interface), g8192)) (gxIdx_spec hg8193).2 (by show ([.int .i64 y8187.Mask, .slice ((g8192 0).1) y8187.Stack.length ((g8192 0).2), .slice ((g8192 1).1) r8197.2.length ((g8192 1).2), .slice ((g8192 2).1) y8187.Queue.Waiting.length ((g8192 2).2)] : List Value) = [.int .i64 y8187.Mask, .slice ((g8192 0).1) y8187.Stack.length ((g8192 0).2), .slice ((g8192 1).1) y8187.Queue.Slots.length ((g8192 1).2), .slice ((g8192 2).1) y8187.Queue.Waiting.length ((g8192 2).2)]; rw [hl8228])), hp8203 ((⟨y8187.Mask, y8187.Stack, (⟨r8197.2, y8187.Queue.Waiting⟩ : Queue)⟩ : Interface), g8192) _ (ownI_cons (i := ⟨Int, Gx.encI, _, _, _⟩) ho8208 (ownI_cons (i := ⟨Slot, encSlot, _, _, _⟩) ho8227 (ownI_cons (i := ⟨Waiter, encWaiter, _, _, _⟩) ho8222 ownI_nil)))⟩
      refine W_conv 0 (.slice p7556 ((s8101.2.2.set s8101.2.1.toNat (⟨s8101.1, y8121.Stack, (⟨y8121.Queue.Slots, y8121.Queue.Waiting⟩ : Queue)⟩ : Interface)).set s8101.2.1.toNat (⟨y8136.Mask, r8146.2, (⟨y8136.Queue.Slots, y8136.Queue.Waiting⟩ : Queue)⟩ : Interface)).length c7557) (.slice p7556 (((s8101.2.2.set s8101.2.1.toNat (⟨s8101.1, y8121.Stack, (⟨y8121.Queue.Slots, y8121.Queue.Waiting⟩ : Queue)⟩ : Interface)).set s8101.2.1.toNat (⟨y8136.Mask, r8146.2, (⟨y8136.Queue.Slots, y8136.Queue.Waiting⟩ : Queue)⟩ : Interface)).set s8101.2.1.toNat (⟨y8187.Mask, y8187.Stack, (⟨r8197.2, y8187.Queue.Waiting⟩ : Queue)⟩ : Interface)).length c7557) (by kernel_rfl) (by rw [@List.length_set _ ((s8101.2.2.set s8101.2.1.toNat (⟨s8101.1, y8121.Stack, (⟨y8121.Queue.Slots, y8121.Queue.Waiting⟩ : Queue)⟩ : Interface)).set s8101.2.1.toNat (⟨y8136.Mask, r8146.2, (⟨y8136.Queue.Slots, y8136.Queue.Waiting⟩ : Queue)⟩ : Interface)) s8101.2.1.toNat (⟨y8187.Mask, y8187.Stack, (⟨r8197.2, y8187.Queue.Waiting⟩ : Queue)⟩ : Interface)]) ?_
      refine W_run 1 [(0, .slice p7556 (((s8101.2.2.set s8101.2.1.toNat (⟨s8101.1, y8121.Stack, (⟨y8121.Queue.Slots, y8121.Queue.Waiting⟩ : Queue)⟩ : Interface)).set s8101.2.1.toNat (⟨y8136.Mask, r8146.2, (⟨y8136.Queue.Slots, y8136.Queue.Waiting⟩ : Queue)⟩ : Interface)).set s8101.2.1.toNat (⟨y8187.Mask, y8187.Stack, (⟨r8197.2, y8187.Queue.Waiting⟩ : Queue)⟩ : Interface)).length c7557), (1, .int .i64 r8197.1), (5, .int .i64 s8101.2.1)] w8229 (by kernel_rfl) ?_
      refine W_nil ?_
      refine N_then ?_
      refine G_region ?_
      refine W_run 2 [(0, .slice p7556 (((s8101.2.2.set s8101.2.1.toNat (⟨s8101.1, y8121.Stack, (⟨y8121.Queue.Slots, y8121.Queue.Waiting⟩ : Queue)⟩ : Interface)).set s8101.2.1.toNat (⟨y8136.Mask, r8146.2, (⟨y8136.Queue.Slots, y8136.Queue.Waiting⟩ : Queue)⟩ : Interface)).set s8101.2.1.toNat (⟨y8187.Mask, y8187.Stack, (⟨r8197.2, y8187.Queue.Waiting⟩ : Queue)⟩ : Interface)).length c7557), (1, .int .i64 r8197.1), (5, .int .i64 s8101.2.1), (34, .slice p7556 (((s8101.2.2.set s8101.2.1.toNat (⟨s8101.1, y8121.Stack, (⟨y8121.Queue.Slots, y8121.Queue.Waiting⟩ : Queue)⟩ : Interface)).set s8101.2.1.toNat (⟨y8136.Mask, r8146.2, (⟨y8136.Queue.Slots, y8136.Queue.Waiting⟩ : Queue)⟩ : Interface)).set s8101.2.1.toNat (⟨y8187.Mask, y8187.Stack, (⟨r8197.2, y8187.Queue.Waiting⟩ : Queue)⟩ : Interface)).length c7557), (35, .int .i64 s8101.2.1)] w8229 (by kernel_rfl) ?_
      obtain ⟨y8238, hy8238, hm⟩ := gx_bind hm
      obtain ⟨zs8239, hz8240, hr8241, hi8242⟩ := id ho8237
      obtain ⟨g8243, hg8244⟩ := gxIdx_fst hz8240 hy8238
      refine W_val (elemP p7556 (s8101.2.1.toNat * 4)) w8229 (by kernel_rfl) (E_index (E := deepInterface.E) _ _ _ (((s8101.2.2.set s8101.2.1.toNat (⟨s8101.1, y8121.Stack, (⟨y8121.Queue.Slots, y8121.Queue.Waiting⟩ : Queue)⟩ : Interface)).set s8101.2.1.toNat (⟨y8136.Mask, r8146.2, (⟨y8136.Queue.Slots, y8136.Queue.Waiting⟩ : Queue)⟩ : Interface)).set s8101.2.1.toNat (⟨y8187.Mask, y8187.Stack, (⟨r8197.2, y8187.Queue.Waiting⟩ : Queue)⟩ : Interface)).length c7557 .i64 s8101.2.1 4 (y := (y8238, g8243)) rfl (by kernel_rfl) (by kernel_rfl) (by kernel_rfl) (hr8241.rd M8236 0 (by kernel_rfl)) (len_fst hz8240) hg8244) ?_
      refine W_val (elemP p7556 (s8101.2.1.toNat * 4 + 2)) w8229 (by kernel_rfl) (E_fieldE (E := deepInterface.E) _ _ 2 (s8101.2.1.toNat * 4) 2 rfl (by kernel_rfl) (by kernel_rfl) (hr8241.rd M8236 0 (by kernel_rfl)) hg8244) ?_
      refine W_val (elemP p7556 (s8101.2.1.toNat * 4 + 2 + 1)) w8229 (by kernel_rfl) (E_fieldE (E := deepInterface.E) _ _ 1 (s8101.2.1.toNat * 4 + 2) 1 rfl (by kernel_rfl) (by kernel_rfl) (hr8241.rd M8236 0 (by kernel_rfl)) hg8244) ?_
      refine W_val (.slice ((g8243 2).1) y8238.Queue.Waiting.length ((g8243 2).2)) w8229 (by kernel_rfl) (E_loadE (E := deepInterface.E) _ _ false 1 s8101.2.1 3 (s8101.2.1.toNat * 4 + 2 + 1) (y8238, g8243) (.slice ((g8243 2).1) y8238.Queue.Waiting.length ((g8243 2).2)) rfl (by kernel_rfl) (by kernel_rfl) (by kernel_rfl) (hr8241.rd M8236 0 (by kernel_rfl)) hg8244 rfl) ?_
      refine W_run 1 [(0, .slice p7556 (((s8101.2.2.set s8101.2.1.toNat (⟨s8101.1, y8121.Stack, (⟨y8121.Queue.Slots, y8121.Queue.Waiting⟩ : Queue)⟩ : Interface)).set s8101.2.1.toNat (⟨y8136.Mask, r8146.2, (⟨y8136.Queue.Slots, y8136.Queue.Waiting⟩ : Queue)⟩ : Interface)).set s8101.2.1.toNat (⟨y8187.Mask, y8187.Stack, (⟨r8197.2, y8187.Queue.Waiting⟩ : Queue)⟩ : Interface)).length c7557), (1, .int .i64 r8197.1), (5, .int .i64 s8101.2.1), (39, .slice ((g8243 2).1) y8238.Queue.Waiting.length ((g8243 2).2)), (40, .int .i64 r8197.1)] w8229 (by kernel_rfl) ?_
      obtain ⟨sa8249, sb8250, sc8251, hs8252, hb8253, hp8254⟩ := hi8242.lens (gxIdx_spec hg8244).2
      have M8255 := M8236.cut 7 (sa := sa8249) (sb := sb8250) (sc := sc8251) hs8252 (by kernel_rfl)
      obtain ⟨u8256, r8257, hu8258, ho8259, hr8260⟩ := hb8253
      have M8261 := M8255.cut 8 (sa := []) (sb := u8256) (sc := r8257) hu8258 (by kernel_rfl)
      obtain ⟨u8263, r8264, hu8265, ho8266, hr8267⟩ := hr8260
      have M8268 := M8261.cut 11 (sa := []) (sb := u8263) (sc := r8264) hu8265 (by kernel_rfl)
      obtain ⟨u8270, r8271, hu8272, ho8273, hr8274⟩ := hr8267
      have M8275 := M8268.cut 13 (sa := []) (sb := u8270) (sc := r8271) hu8272 (by kernel_rfl)
      obtain ⟨r8248, hr8248, hm⟩ := gx_bind hm
      refine W_call 126 #[.slice ((g8243 2).1) y8238.Queue.Waiting.length ((g8243 2).2), .int .i64 r8197.1] (by kernel_rfl) (by kernel_rfl) ?_
      refine (c_l_markWaiterS w8229 y8238.Queue.Waiting ((g8243 2).1) ((g8243 2).2) u8270 ho8273 r8197.1 (M8275.hasPick [14]) (M8275.nodupPick [14] (by kernel_rfl)) hr8248).mono ?_
      rintro e_ w8280 ⟨sg8277, rfl, ho8278, hl8279, K8281⟩
      have M8282 := M8275.callF' [14] [0, 1, 2, 3, 4, 5, 6, 7, 8, 9, 10, 11, 12, 13, 15] (by kernel_rfl) K8281
      refine ⟨_, rfl, ?_⟩
      refine W_conv 39 (.slice ((g8243 2).1) y8238.Queue.Waiting.length ((g8243 2).2)) (.slice ((g8243 2).1) r8248.2.length ((g8243 2).2)) (by kernel_rfl) (by first | rw [hl8279] | rw [hl8279]) ?_
      have M8286 : Mem (idsOf [sg7558, sg7559]) w w8280 [sg8133, [], [], [], [], [], [], [], [], [], sa8249, u8256, u8263, sg8277, sc8251] := M8282.pick [0, 1, 2, 3, 4, 5, 6, 8, 11, 13, 7, 10, 12, 15, 9] (by kernel_rfl)
      have M8287 : Mem (idsOf [sg7558, sg7559]) w w8280 [sg8133, [], [], [], [], [], [], [], [], [], (sa8249 ++ ((u8256 ++ (u8263 ++ (sg8277 ++ []))) ++ sc8251))] := M8286.regroup (by simp)
      have ho8288 : ownD deepInterface ((((s8101.2.2.set s8101.2.1.toNat (⟨s8101.1, y8121.Stack, (⟨y8121.Queue.Slots, y8121.Queue.Waiting⟩ : Queue)⟩ : Interface)).set s8101.2.1.toNat (⟨y8136.Mask, r8146.2, (⟨y8136.Queue.Slots, y8136.Queue.Waiting⟩ : Queue)⟩ : Interface)).set s8101.2.1.toNat (⟨y8187.Mask, y8187.Stack, (⟨r8197.2, y8187.Queue.Waiting⟩ : Queue)⟩ : Interface)).set s8101.2.1.toNat (⟨y8238.Mask, y8238.Stack, (⟨y8238.Queue.Slots, r8248.2⟩ : Queue)⟩ : Interface)) p7556 c7557 sg8133 (sa8249 ++ ((u8256 ++ (u8263 ++ (sg8277 ++ []))) ++ sc8251)) := ⟨_, set_fst hz8240 s8101.2.1.toNat ((⟨y8238.Mask, y8238.Stack, (⟨y8238.Queue.Slots, r8248.2⟩ : Queue)⟩ : Interface), g8243), (hr8241.setSame (z' := ((⟨y8238.Mask, y8238.Stack, (⟨y8238.Queue.Slots, r8248.2⟩ : Queue)⟩ : Interface), g8243)) (gxIdx_spec hg8244).2 (by show ([.int .i64 y8238.Mask, .slice ((g8243 0).1) y8238.Stack.length ((g8243 0).2), .slice ((g8243 1).1) y8238.Queue.Slots.length ((g8243 1).2), .slice ((g8243 2).1) r8248.2.length ((g8243 2).2)] : List Value) = [.int .i64 y8238.Mask, .slice ((g8243 0).1) y8238.Stack.length ((g8243 0).2), .slice ((g8243 1).1) y8238.Queue.Slots.length ((g8243 1).2), .slice ((g8243 2).1) y8238.Queue.Waiting.length ((g8243 2).2)]; rw [hl8279])), hp8254 ((⟨y8238.Mask, y8238.Stack, (⟨y8238.Queue.Slots, r8248.2⟩ : Queue)⟩ : Interface), g8243) _ (ownI_cons (i := ⟨Int, Gx.encI, _, _, _⟩) ho8259 (ownI_cons (i := ⟨Slot, encSlot, _, _, _⟩) ho8266 (ownI_cons (i := ⟨Waiter, encWaiter, _, _, _⟩) ho8278 ownI_nil)))⟩
      refine W_conv 0 (.slice p7556 (((s8101.2.2.set s8101.2.1.toNat (⟨s8101.1, y8121.Stack, (⟨y8121.Queue.Slots, y8121.Queue.Waiting⟩ : Queue)⟩ : Interface)).set s8101.2.1.toNat (⟨y8136.Mask, r8146.2, (⟨y8136.Queue.Slots, y8136.Queue.Waiting⟩ : Queue)⟩ : Interface)).set s8101.2.1.toNat (⟨y8187.Mask, y8187.Stack, (⟨r8197.2, y8187.Queue.Waiting⟩ : Queue)⟩ : Interface)).length c7557) (.slice p7556 ((((s8101.2.2.set s8101.2.1.toNat (⟨s8101.1, y8121.Stack, (⟨y8121.Queue.Slots, y8121.Queue.Waiting⟩ : Queue)⟩ : Interface)).set s8101.2.1.toNat (⟨y8136.Mask, r8146.2, (⟨y8136.Queue.Slots, y8136.Queue.Waiting⟩ : Queue)⟩ : Interface)).set s8101.2.1.toNat (⟨y8187.Mask, y8187.Stack, (⟨r8197.2, y8187.Queue.Waiting⟩ : Queue)⟩ : Interface)).set s8101.2.1.toNat (⟨y8238.Mask, y8238.Stack, (⟨y8238.Queue.Slots, r8248.2⟩ : Queue)⟩ : Interface)).length c7557) (by kernel_rfl) (by rw [@List.length_set _ (((s8101.2.2.set s8101.2.1.toNat (⟨s8101.1, y8121.Stack, (⟨y8121.Queue.Slots, y8121.Queue.Waiting⟩ : Queue)⟩ : Interface)).set s8101.2.1.toNat (⟨y8136.Mask, r8146.2, (⟨y8136.Queue.Slots, y8136.Queue.Waiting⟩ : Queue)⟩ : Interface)).set s8101.2.1.toNat (⟨y8187.Mask, y8187.Stack, (⟨r8197.2, y8187.Queue.Waiting⟩ : Queue)⟩ : Interface)) s8101.2.1.toNat (⟨y8238.Mask, y8238.Stack, (⟨y8238.Queue.Slots, r8248.2⟩ : Queue)⟩ : Interface)]) ?_
      refine W_run 1 [(0, .slice p7556 ((((s8101.2.2.set s8101.2.1.toNat (⟨s8101.1, y8121.Stack, (⟨y8121.Queue.Slots, y8121.Queue.Waiting⟩ : Queue)⟩ : Interface)).set s8101.2.1.toNat (⟨y8136.Mask, r8146.2, (⟨y8136.Queue.Slots, y8136.Queue.Waiting⟩ : Queue)⟩ : Interface)).set s8101.2.1.toNat (⟨y8187.Mask, y8187.Stack, (⟨r8197.2, y8187.Queue.Waiting⟩ : Queue)⟩ : Interface)).set s8101.2.1.toNat (⟨y8238.Mask, y8238.Stack, (⟨y8238.Queue.Slots, r8248.2⟩ : Queue)⟩ : Interface)).length c7557), (1, .int .i64 r8248.1), (5, .int .i64 s8101.2.1)] w8280 (by kernel_rfl) ?_
      refine W_nil ?_
      refine N_block ?_
      refine N_then ?_
      refine G_region ?_
      refine W_run 3 [(0, .slice p7556 ((((s8101.2.2.set s8101.2.1.toNat (⟨s8101.1, y8121.Stack, (⟨y8121.Queue.Slots, y8121.Queue.Waiting⟩ : Queue)⟩ : Interface)).set s8101.2.1.toNat (⟨y8136.Mask, r8146.2, (⟨y8136.Queue.Slots, y8136.Queue.Waiting⟩ : Queue)⟩ : Interface)).set s8101.2.1.toNat (⟨y8187.Mask, y8187.Stack, (⟨r8197.2, y8187.Queue.Waiting⟩ : Queue)⟩ : Interface)).set s8101.2.1.toNat (⟨y8238.Mask, y8238.Stack, (⟨y8238.Queue.Slots, r8248.2⟩ : Queue)⟩ : Interface)).length c7557), (1, .int .i64 r8248.1), (5, .int .i64 (w64 (s8101.2.1 + 1)))] w8280 (by kernel_rfl) ?_
      refine W_nil ?_
      obtain rfl := Option.some.inj hm
      exact N_loop fun a ha => ⟨_, rfl, sg8133, (sa8249 ++ ((u8256 ++ (u8263 ++ (sg8277 ++ []))) ++ sc8251)), ho8288, (List.length_set.trans (List.length_set.trans (List.length_set.trans (List.length_set.trans hl8114)))), M8287.pick [0, 10] (by kernel_rfl), ha.sub (by kernel_rfl)⟩
    · refine G_cond_f (b := (decide (s8101.2.1 < (s8101.2.2.length : Int)))) hc8120 (by kernel_rfl) ?_
      refine G_exit ?_
      refine N_then_exit ?_
      refine N_then_exit ?_
      refine N_block_eq ?_
      obtain rfl := Option.some.inj hm
      obtain rfl := hout8103 _ rfl
      exact N_meet fun a ha => ⟨sg8111, sg8112, ho8113, hl8114, M8106.pick [0, 1] (by kernel_rfl), ha.sub (by kernel_rfl)⟩
  · intro a8289 w8290 ⟨sg8116, sg8117, ho8118, hl8119, M8291, hS8292⟩
    refine N_use hS8292 ?_
    have hm := hmo8110
    refine N_then ?_
    refine G_seq ?_
    refine G_region ?_
    refine W_run 2 [(4, .int .i64 out8108.1)] w8290 (by kernel_rfl) ?_
    refine W_nil ?_
    refine N_then ?_
    refine G_ret ?_
    obtain rfl := Option.some.inj hm
    refine N_ret [.int .i64 out8108.1] (RVs_cons (RV_tmp (by kernel_rfl)) RVs_nil) ?_
    exact ⟨sg8116, sg8117, rfl, ho8118, hl8119, M8291.pick [0, 1] (by kernel_rfl)⟩
theorem c_l_markMachine (w : World) (x7383 : Machine) (p7385 : Option Addr) (c7386 : Nat) (sg7387 : Seg) (ho7388 : ownS encRoute x7383.Routes p7385 c7386 sg7387) (p7390 : Option Addr) (c7391 : Nat) (sg7392 : Seg) (ho7393 : ownS Gx.encB x7383.Enabled p7390 c7391 sg7392) (p7395 : Option Addr) (c7396 : Nat) (sg7397 : Seg) (ho7398 : ownS Gx.encB x7383.Raised p7395 c7396 sg7397) (p7400 : Option Addr) (c7401 : Nat) (sg7402 : Seg) (sg7403 : Seg) (ho7404 : ownD deepInterface x7383.Cpus p7400 c7401 sg7402 sg7403) (x7405 : Int) (hA : ∀ q ∈ List.flatten [sg7387, sg7392, sg7397, sg7402, sg7403], w.heap[q.1]? = some q.2) (hN : (idsOf [sg7387, sg7392, sg7397, sg7402, sg7403]).Nodup) {r : Int × (List Route) × (List Bool) × (List Bool) × (List Interface)} (hm : M.l_markMachine x7383 x7405 = some r) :
    Calls Tryz.prog 20 #[.agg #[.slice p7385 x7383.Routes.length c7386, .slice p7390 x7383.Enabled.length c7391, .slice p7395 x7383.Raised.length c7396, .slice p7400 x7383.Cpus.length c7401], .int .i64 x7405] w fun e w' => ∃ (sg7406 : Seg), ∃ (sg7407 : Seg), ∃ (sg7408 : Seg), ∃ (sg7409 : Seg) (sg7410 : Seg), e = .returned (.int .i64 r.1) ∧ ownS encRoute r.2.1 p7385 c7386 sg7406 ∧ r.2.1.length = x7383.Routes.length ∧ ownS Gx.encB r.2.2.1 p7390 c7391 sg7407 ∧ r.2.2.1.length = x7383.Enabled.length ∧ ownS Gx.encB r.2.2.2.1 p7395 c7396 sg7408 ∧ r.2.2.2.1.length = x7383.Raised.length ∧ ownD deepInterface r.2.2.2.2 p7400 c7401 sg7409 sg7410 ∧ r.2.2.2.2.length = x7383.Cpus.length ∧ Mem (idsOf [sg7387, sg7392, sg7397, sg7402, sg7403]) w w' [sg7406, sg7407, sg7408, sg7409, sg7410] := by
  unfold M.l_markMachine at hm
  refine C_enter Tryz.func20 rfl (by kernel_rfl) ?_
  have M0 := Mem.start' w [sg7387, sg7392, sg7397, sg7402, sg7403] hA hN
  refine G_seq ?_
  refine G_region ?_
  refine W_new (fun b => .pointer (some ⟨b, 0, none⟩)) (.cells ⟨[.slice p7385 x7383.Routes.length c7386, .slice p7390 x7383.Enabled.length c7391, .slice p7395 x7383.Raised.length c7396, .slice p7400 x7383.Cpus.length c7401]⟩ 32 (0, 0)) M0 rfl (by kernel_rfl) (by kernel_rfl) ?_
  intro b7412 w7413 M7414
  refine W_run 1 [(1, .int .i64 x7405), (2, .pointer (some ⟨b7412, 0, none⟩))] w7413 (by kernel_rfl) ?_
  refine W_nil ?_
  refine N_then ?_
  refine G_seq ?_
  refine G_region ?_
  refine W_run 1 [(1, .int .i64 x7405), (2, .pointer (some ⟨b7412, 0, none⟩)), (5, .pointer (some ⟨b7412, 0, none⟩))] w7413 (by kernel_rfl) ?_
  refine W_val (.slice p7385 x7383.Routes.length c7386) w7413 (by kernel_rfl) (E_load (e := 32) (fr := (0, 0)) _ _ false 1 b7412 0 [.slice p7385 x7383.Routes.length c7386, .slice p7390 x7383.Enabled.length c7391, .slice p7395 x7383.Raised.length c7396, .slice p7400 x7383.Cpus.length c7401] (.slice p7385 x7383.Routes.length c7386) rfl (by kernel_rfl) (by kernel_rfl) (by kernel_rfl) (M7414.blk 5 (b := b7412) (o := .cells ⟨[.slice p7385 x7383.Routes.length c7386, .slice p7390 x7383.Enabled.length c7391, .slice p7395 x7383.Raised.length c7396, .slice p7400 x7383.Cpus.length c7401]⟩ 32 (0, 0)) (by kernel_rfl))) ?_
  refine W_run 1 [(1, .int .i64 x7405), (2, .pointer (some ⟨b7412, 0, none⟩)), (6, .slice p7385 x7383.Routes.length c7386), (7, .int .i64 x7405)] w7413 (by kernel_rfl) ?_
  obtain ⟨r7480, hr7480, hm⟩ := gx_bind hm
  refine W_call 68 #[.slice p7385 x7383.Routes.length c7386, .int .i64 x7405] (by kernel_rfl) (by kernel_rfl) ?_
  refine (c_l_markRouteS w7413 x7383.Routes p7385 c7386 sg7387 ho7388 x7405 (M7414.hasPick [0]) (M7414.nodupPick [0] (by kernel_rfl)) hr7480).mono ?_
  rintro e_ w7484 ⟨sg7481, rfl, ho7482, hl7483, K7485⟩
  have M7486 := M7414.callF' [0] [1, 2, 3, 4, 5] (by kernel_rfl) K7485
  refine ⟨_, rfl, ?_⟩
  refine W_conv 6 (.slice p7385 x7383.Routes.length c7386) (.slice p7385 r7480.2.length c7386) (by kernel_rfl) (by first | rw [hl7483] | rw [hl7483]) ?_
  have M7487 : Mem (idsOf [sg7387, sg7392, sg7397, sg7402, sg7403]) w w7484 [sg7392, sg7397, sg7402, sg7403, [(b7412, .cells ⟨[.slice p7385 r7480.2.length c7386, .slice p7390 x7383.Enabled.length c7391, .slice p7395 x7383.Raised.length c7396, .slice p7400 x7383.Cpus.length c7401]⟩ 32 (0, 0))], sg7481] := by rw [hl7483]; exact M7486
  refine W_run 1 [(1, .int .i64 r7480.1), (2, .pointer (some ⟨b7412, 0, none⟩))] w7484 (by kernel_rfl) ?_
  refine W_nil ?_
  refine N_then ?_
  refine G_seq ?_
  refine G_region ?_
  refine W_run 1 [(1, .int .i64 r7480.1), (2, .pointer (some ⟨b7412, 0, none⟩)), (9, .pointer (some ⟨b7412, 1, none⟩))] w7484 (by kernel_rfl) ?_
  refine W_val (.slice p7390 x7383.Enabled.length c7391) w7484 (by kernel_rfl) (E_load (e := 32) (fr := (0, 0)) _ _ false 1 b7412 1 [.slice p7385 r7480.2.length c7386, .slice p7390 x7383.Enabled.length c7391, .slice p7395 x7383.Raised.length c7396, .slice p7400 x7383.Cpus.length c7401] (.slice p7390 x7383.Enabled.length c7391) rfl (by kernel_rfl) (by kernel_rfl) (by kernel_rfl) (M7487.blk 4 (b := b7412) (o := .cells ⟨[.slice p7385 r7480.2.length c7386, .slice p7390 x7383.Enabled.length c7391, .slice p7395 x7383.Raised.length c7396, .slice p7400 x7383.Cpus.length c7401]⟩ 32 (0, 0)) (by kernel_rfl))) ?_
  refine W_run 1 [(1, .int .i64 r7480.1), (2, .pointer (some ⟨b7412, 0, none⟩)), (10, .slice p7390 x7383.Enabled.length c7391), (11, .int .i64 r7480.1)] w7484 (by kernel_rfl) ?_
  obtain ⟨r7538, hr7538, hm⟩ := gx_bind hm
  refine W_call 69 #[.slice p7390 x7383.Enabled.length c7391, .int .i64 r7480.1] (by kernel_rfl) (by kernel_rfl) ?_
  refine (c_l_markBoolS w7484 x7383.Enabled p7390 c7391 sg7392 ho7393 r7480.1 (M7487.hasPick [0]) (M7487.nodupPick [0] (by kernel_rfl)) hr7538).mono ?_
  rintro e_ w7542 ⟨sg7539, rfl, ho7540, hl7541, K7543⟩
  have M7544 := M7487.callF' [0] [1, 2, 3, 4, 5] (by kernel_rfl) K7543
  refine ⟨_, rfl, ?_⟩
  refine W_conv 10 (.slice p7390 x7383.Enabled.length c7391) (.slice p7390 r7538.2.length c7391) (by kernel_rfl) (by first | rw [hl7541] | rw [hl7541]) ?_
  have M7545 : Mem (idsOf [sg7387, sg7392, sg7397, sg7402, sg7403]) w w7542 [sg7397, sg7402, sg7403, [(b7412, .cells ⟨[.slice p7385 r7480.2.length c7386, .slice p7390 r7538.2.length c7391, .slice p7395 x7383.Raised.length c7396, .slice p7400 x7383.Cpus.length c7401]⟩ 32 (0, 0))], sg7481, sg7539] := by rw [hl7541]; exact M7544
  refine W_run 1 [(1, .int .i64 r7538.1), (2, .pointer (some ⟨b7412, 0, none⟩))] w7542 (by kernel_rfl) ?_
  refine W_nil ?_
  refine N_then ?_
  refine G_seq ?_
  refine G_region ?_
  refine W_run 1 [(1, .int .i64 r7538.1), (2, .pointer (some ⟨b7412, 0, none⟩)), (13, .pointer (some ⟨b7412, 2, none⟩))] w7542 (by kernel_rfl) ?_
  refine W_val (.slice p7395 x7383.Raised.length c7396) w7542 (by kernel_rfl) (E_load (e := 32) (fr := (0, 0)) _ _ false 1 b7412 2 [.slice p7385 r7480.2.length c7386, .slice p7390 r7538.2.length c7391, .slice p7395 x7383.Raised.length c7396, .slice p7400 x7383.Cpus.length c7401] (.slice p7395 x7383.Raised.length c7396) rfl (by kernel_rfl) (by kernel_rfl) (by kernel_rfl) (M7545.blk 3 (b := b7412) (o := .cells ⟨[.slice p7385 r7480.2.length c7386, .slice p7390 r7538.2.length c7391, .slice p7395 x7383.Raised.length c7396, .slice p7400 x7383.Cpus.length c7401]⟩ 32 (0, 0)) (by kernel_rfl))) ?_
  refine W_run 1 [(1, .int .i64 r7538.1), (2, .pointer (some ⟨b7412, 0, none⟩)), (14, .slice p7395 x7383.Raised.length c7396), (15, .int .i64 r7538.1)] w7542 (by kernel_rfl) ?_
  obtain ⟨r7546, hr7546, hm⟩ := gx_bind hm
  refine W_call 69 #[.slice p7395 x7383.Raised.length c7396, .int .i64 r7538.1] (by kernel_rfl) (by kernel_rfl) ?_
  refine (c_l_markBoolS w7542 x7383.Raised p7395 c7396 sg7397 ho7398 r7538.1 (M7545.hasPick [0]) (M7545.nodupPick [0] (by kernel_rfl)) hr7546).mono ?_
  rintro e_ w7550 ⟨sg7547, rfl, ho7548, hl7549, K7551⟩
  have M7552 := M7545.callF' [0] [1, 2, 3, 4, 5] (by kernel_rfl) K7551
  refine ⟨_, rfl, ?_⟩
  refine W_conv 14 (.slice p7395 x7383.Raised.length c7396) (.slice p7395 r7546.2.length c7396) (by kernel_rfl) (by first | rw [hl7549] | rw [hl7549]) ?_
  have M7553 : Mem (idsOf [sg7387, sg7392, sg7397, sg7402, sg7403]) w w7550 [sg7402, sg7403, [(b7412, .cells ⟨[.slice p7385 r7480.2.length c7386, .slice p7390 r7538.2.length c7391, .slice p7395 r7546.2.length c7396, .slice p7400 x7383.Cpus.length c7401]⟩ 32 (0, 0))], sg7481, sg7539, sg7547] := by rw [hl7549]; exact M7552
  refine W_run 1 [(1, .int .i64 r7546.1), (2, .pointer (some ⟨b7412, 0, none⟩))] w7550 (by kernel_rfl) ?_
  refine W_nil ?_
  refine N_then ?_
  refine G_seq ?_
  refine G_region ?_
  refine W_run 1 [(1, .int .i64 r7546.1), (17, .pointer (some ⟨b7412, 3, none⟩))] w7550 (by kernel_rfl) ?_
  refine W_val (.slice p7400 x7383.Cpus.length c7401) w7550 (by kernel_rfl) (E_load (e := 32) (fr := (0, 0)) _ _ false 1 b7412 3 [.slice p7385 r7480.2.length c7386, .slice p7390 r7538.2.length c7391, .slice p7395 r7546.2.length c7396, .slice p7400 x7383.Cpus.length c7401] (.slice p7400 x7383.Cpus.length c7401) rfl (by kernel_rfl) (by kernel_rfl) (by kernel_rfl) (M7553.blk 2 (b := b7412) (o := .cells ⟨[.slice p7385 r7480.2.length c7386, .slice p7390 r7538.2.length c7391, .slice p7395 r7546.2.length c7396, .slice p7400 x7383.Cpus.length c7401]⟩ 32 (0, 0)) (by kernel_rfl))) ?_
  refine W_run 1 [(1, .int .i64 r7546.1), (18, .slice p7400 x7383.Cpus.length c7401), (19, .int .i64 r7546.1)] w7550 (by kernel_rfl) ?_
  obtain ⟨r8293, hr8293, hm⟩ := gx_bind hm
  refine W_call 70 #[.slice p7400 x7383.Cpus.length c7401, .int .i64 r7546.1] (by kernel_rfl) (by kernel_rfl) ?_
  refine (c_l_markInterfaceS w7550 x7383.Cpus p7400 c7401 sg7402 sg7403 ho7404 r7546.1 (M7553.hasPick [0, 1]) (M7553.nodupPick [0, 1] (by kernel_rfl)) hr8293).mono ?_
  rintro e_ w8298 ⟨sg8294, sg8295, rfl, ho8296, hl8297, K8299⟩
  have M8300 := M7553.callF' [0, 1] [2, 3, 4, 5] (by kernel_rfl) K8299
  refine ⟨_, rfl, ?_⟩
  refine W_conv 18 (.slice p7400 x7383.Cpus.length c7401) (.slice p7400 r8293.2.length c7401) (by kernel_rfl) (by first | rw [hl8297] | rw [hl8297]) ?_
  have M8301 : Mem (idsOf [sg7387, sg7392, sg7397, sg7402, sg7403]) w w8298 [[(b7412, .cells ⟨[.slice p7385 r7480.2.length c7386, .slice p7390 r7538.2.length c7391, .slice p7395 r7546.2.length c7396, .slice p7400 r8293.2.length c7401]⟩ 32 (0, 0))], sg7481, sg7539, sg7547, sg8294, sg8295] := by rw [hl8297]; exact M8300
  refine W_run 1 [(1, .int .i64 r8293.1)] w8298 (by kernel_rfl) ?_
  refine W_nil ?_
  refine N_then ?_
  refine G_seq ?_
  refine G_region ?_
  refine W_run 2 [(4, .int .i64 r8293.1)] w8298 (by kernel_rfl) ?_
  refine W_nil ?_
  refine N_then ?_
  refine G_ret ?_
  obtain rfl := Option.some.inj hm
  refine N_ret [.int .i64 r8293.1] (RVs_cons (RV_tmp (by kernel_rfl)) RVs_nil) ?_
  exact ⟨sg7481, sg7539, sg7547, sg8294, sg8295, rfl, ho7482, (hl7483.trans rfl), ho7540, (hl7541.trans rfl), ho7548, (hl7549.trans rfl), ho8296, (hl8297.trans rfl), M8301.pick [1, 2, 3, 4, 5] (by kernel_rfl)⟩
theorem c_l_heldIntS (w : World) (x8347 : List Int) (p8349 : Option Addr) (c8350 : Nat) (h8351 : rdS Gx.encI w x8347 p8349 c8350) (x8352 : Int) {r : Int} (hm : M.l_heldIntS x8347 x8352 = some r) :
    Calls Tryz.prog 22 #[.slice p8349 x8347.length c8350, .int .i64 x8352] w fun e w' => e = .returned (.int .i64 r) ∧ Mem [] w w' [] := by
  unfold M.l_heldIntS at hm
  refine C_enter Tryz.func22 rfl (by kernel_rfl) ?_
  have M0 := Mem.refl [] w
  refine G_seq ?_
  refine G_region ?_
  refine W_run 1 [(0, .slice p8349 x8347.length c8350), (1, .int .i64 x8352)] w (by kernel_rfl) ?_
  refine W_nil ?_
  refine N_then ?_
  refine G_seq ?_
  refine G_seq ?_
  refine G_region ?_
  refine W_run 1 [(0, .slice p8349 x8347.length c8350), (1, .int .i64 x8352), (5, .int .i64 0)] w (by kernel_rfl) ?_
  refine W_nil ?_
  refine N_then ?_
  obtain ⟨out8366, hw8367, hmo8368⟩ := gx_bind hm
  refine G_meet (fun a w' => ∃ (o8369 : Int), out8366 = .inl o8369 ∧ Mem [] w w' [] ∧ Sat Tryz.f22.ntmps [(1, .int .i64 o8369)] a) ?_ ?_
  · refine G_block ?_
    refine G_while (σ := Int × Int) (ρ := (Int) ⊕ (Int)) (fun s8359 a w' => Mem [] w w' [] ∧ Sat Tryz.f22.ntmps [(0, .slice p8349 x8347.length c8350), (1, .int .i64 s8359.1), (5, .int .i64 s8359.2)] a) hw8367 (fun a ha => ⟨M0.pick [] (by kernel_rfl), ha.sub (by kernel_rfl)⟩) ?_
    clear hm
    intro s8359 x8360 hm hout8361 a8362 w8363 ⟨M8364, hS8365⟩
    refine G_use hS8365 ?_
    refine G_seq ?_
    refine G_seq ?_
    refine G_region ?_
    refine W_run 4 [(0, .slice p8349 x8347.length c8350), (1, .int .i64 s8359.1), (5, .int .i64 s8359.2), (9, .bool (decide (s8359.2 < (x8347.length : Int))))] w8363 (by kernel_rfl) ?_
    refine W_nil ?_
    refine N_then ?_
    rcases gx_bif hm with ⟨hc8370, hm⟩ | ⟨hc8370, hm⟩
    · refine G_cond_t (b := (decide (s8359.2 < (x8347.length : Int)))) hc8370 (by kernel_rfl) ?_
      refine G_skip ?_
      refine N_then ?_
      refine G_seq ?_
      refine G_block ?_
      refine G_seq ?_
      refine G_seq ?_
      refine G_region ?_
      refine W_run 2 [(0, .slice p8349 x8347.length c8350), (1, .int .i64 s8359.1), (5, .int .i64 s8359.2), (12, .slice p8349 x8347.length c8350), (13, .int .i64 s8359.2)] w8363 (by kernel_rfl) ?_
      obtain ⟨y8371, hy8371, hm⟩ := gx_bind hm
      refine W_val (elemP p8349 (s8359.2.toNat * 1)) w8363 (by kernel_rfl) (E_index (E := Gx.encI) _ _ _ x8347.length c8350 .i64 s8359.2 1 (y := y8371) rfl (by kernel_rfl) (by kernel_rfl) (by kernel_rfl) (h8351.mem0 M8364) rfl hy8371) ?_
      refine W_val (.int .i64 y8371) w8363 (by kernel_rfl) (E_loadE (E := Gx.encI) _ _ false 1 s8359.2 0 (s8359.2.toNat * 1) y8371 (.int .i64 y8371) rfl (by kernel_rfl) (by kernel_rfl) (by kernel_rfl) (h8351.mem0 M8364) hy8371 rfl) ?_
      refine W_run 2 [(0, .slice p8349 x8347.length c8350), (1, .int .i64 s8359.1), (5, .int .i64 s8359.2), (17, .bool (y8371 != s8359.1))] w8363 (by kernel_rfl) ?_
      refine W_nil ?_
      refine N_then ?_
      rcases gx_bif hm with ⟨hc8372, hm⟩ | ⟨hc8372, hm⟩
      · refine G_cond_t (b := (y8371 != s8359.1)) hc8372 (by kernel_rfl) ?_
        refine G_seq ?_
        refine G_region ?_
        refine W_run 1 [(4, .int .i64 (-1))] w8363 (by kernel_rfl) ?_
        refine W_nil ?_
        refine N_then ?_
        refine G_ret ?_
        refine N_then_ret ?_
        refine N_block_ret ?_
        refine N_then_ret ?_
        refine N_then_ret ?_
        obtain rfl := Option.some.inj hm
        obtain rfl := hout8361 _ rfl
        have hm := hmo8368; simp only [Sum.elim_inr] at hm
        refine N_block_ret ?_
        refine N_meet_ret ?_
        refine N_then_ret ?_
        obtain rfl := Option.some.inj hm
        refine N_ret [.int .i64 (-1)] (RVs_cons (RV_tmp (by kernel_rfl)) RVs_nil) ?_
        exact ⟨rfl, M8364.pick [] (by kernel_rfl)⟩
      · refine G_cond_f (b := (y8371 != s8359.1)) hc8372 (by kernel_rfl) ?_
        refine G_skip ?_
        refine N_then ?_
        refine G_region ?_
        refine W_run 3 [(0, .slice p8349 x8347.length c8350), (1, .int .i64 (w64 (s8359.1 + 1))), (5, .int .i64 s8359.2)] w8363 (by kernel_rfl) ?_
        refine W_nil ?_
        refine N_block ?_
        refine N_then ?_
        refine G_region ?_
        refine W_run 3 [(0, .slice p8349 x8347.length c8350), (1, .int .i64 (w64 (s8359.1 + 1))), (5, .int .i64 (w64 (s8359.2 + 1)))] w8363 (by kernel_rfl) ?_
        refine W_nil ?_
        obtain rfl := Option.some.inj hm
        exact N_loop fun a ha => ⟨_, rfl, M8364.pick [] (by kernel_rfl), ha.sub (by kernel_rfl)⟩
    · refine G_cond_f (b := (decide (s8359.2 < (x8347.length : Int)))) hc8370 (by kernel_rfl) ?_
      refine G_exit ?_
      refine N_then_exit ?_
      refine N_then_exit ?_
      refine N_block_eq ?_
      obtain rfl := Option.some.inj hm
      obtain rfl := hout8361 _ rfl
      exact N_meet fun a ha => ⟨_, rfl, M8364.pick [] (by kernel_rfl), ha.sub (by kernel_rfl)⟩
  · intro a8373 w8374 ⟨o8369, hout_, M8375, hS8376⟩
    refine N_use hS8376 ?_
    subst hout_
    have hm := hmo8368; simp only [Sum.elim_inl] at hm
    refine N_then ?_
    refine G_seq ?_
    refine G_region ?_
    refine W_run 2 [(4, .int .i64 o8369)] w8374 (by kernel_rfl) ?_
    refine W_nil ?_
    refine N_then ?_
    refine G_ret ?_
    obtain rfl := Option.some.inj hm
    refine N_ret [.int .i64 o8369] (RVs_cons (RV_tmp (by kernel_rfl)) RVs_nil) ?_
    exact ⟨rfl, M8375.pick [] (by kernel_rfl)⟩
end Go.Proofs.YtllhajkgkghhdaaGreat
