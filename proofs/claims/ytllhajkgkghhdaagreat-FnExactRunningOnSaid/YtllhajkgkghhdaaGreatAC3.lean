/- The walks, printed by program: whenever the model gives r, the call returns r. Part 3. -/
import Derived.Test.YtllhajkgkghhdaaGreatAM
import Derived.Test.YtllhajkgkghhdaaGreatProg
import Derived.Test.YtllhajkgkghhdaaGreatSh
import Derived.Test.YtllhajkgkghhdaaGreatAC2
set_option linter.unusedVariables false
set_option maxRecDepth 100000
set_option maxHeartbeats 4000000
namespace Go.Proofs.YtllhajkgkghhdaaGreat
open Go.Gx
theorem c_slices_IndexFunc_166__i_waiterIndex_1 (w : World) (x4619 : List Waiter) (p4621 : Option Addr) (c4622 : Nat) (h4623 : rdS encWaiter w x4619 p4621 c4622) (x4624 : Int) (b4625 : Nat) (hb4626 : w.heap[b4625]? = some (.cells ⟨[.int .i64 x4624]⟩ 3 (0, 0))) {r : Int} (hm : M.slices_IndexFunc_166__i_waiterIndex_1 x4619 x4624 = some r) :
    Calls Tryz.prog 166 #[.slice p4621 x4619.length c4622, .func (.func 239) #[] #[.pointer (some ⟨b4625, 0, none⟩)]] w fun e w' => e = .returned (.int .i64 r) ∧ Mem [] w w' [] := by
  unfold M.slices_IndexFunc_166__i_waiterIndex_1 at hm
  refine C_enter Tryz.func166 rfl (by kernel_rfl) ?_
  have M0 := Mem.refl [] w
  refine G_seq ?_
  refine G_region ?_
  refine W_run 1 [(0, .slice p4621 x4619.length c4622), (1, .func (.func 239) #[] #[.pointer (some ⟨b4625, 0, none⟩)])] w (by kernel_rfl) ?_
  refine W_nil ?_
  refine N_then ?_
  refine G_seq ?_
  refine G_seq ?_
  refine G_region ?_
  refine W_run 3 [(0, .slice p4621 x4619.length c4622), (1, .func (.func 239) #[] #[.pointer (some ⟨b4625, 0, none⟩)]), (7, .int .i64 (x4619.length : Int)), (8, .int .i64 0)] w (by kernel_rfl) ?_
  refine W_nil ?_
  refine N_then ?_
  obtain ⟨out4658, hw4659, hmo4660⟩ := gx_bind hm
  refine G_meet (fun a w' => ∃ (o4661 : Unit), out4658 = .inl o4661 ∧ Mem [] w w' [] ∧ Sat Tryz.f166.ntmps [] a) ?_ ?_
  · refine G_block ?_
    refine G_while (σ := Int) (ρ := (Unit) ⊕ (Int)) (fun s4651 a w' => Mem [] w w' [] ∧ Sat Tryz.f166.ntmps [(0, .slice p4621 x4619.length c4622), (1, .func (.func 239) #[] #[.pointer (some ⟨b4625, 0, none⟩)]), (7, .int .i64 (x4619.length : Int)), (8, .int .i64 s4651)] a) hw4659 (fun a ha => ⟨M0.pick [] (by kernel_rfl), ha.sub (by kernel_rfl)⟩) ?_
    clear hm
    intro s4651 x4652 hm hout4653 a4654 w4655 ⟨M4656, hS4657⟩
    refine G_use hS4657 ?_
    refine G_seq ?_
    refine G_region ?_
    refine W_run 1 [(0, .slice p4621 x4619.length c4622), (1, .func (.func 239) #[] #[.pointer (some ⟨b4625, 0, none⟩)]), (7, .int .i64 (x4619.length : Int)), (8, .int .i64 s4651), (9, .bool (decide (s4651 < (x4619.length : Int))))] w4655 (by kernel_rfl) ?_
    refine W_nil ?_
    refine N_then ?_
    refine G_seq ?_
    rcases gx_bif hm with ⟨hc4662, hm⟩ | ⟨hc4662, hm⟩
    · refine G_cond_t (b := (decide (s4651 < (x4619.length : Int)))) hc4662 (by kernel_rfl) ?_
      refine G_skip ?_
      refine N_then ?_
      refine G_seq ?_
      refine G_block ?_
      refine G_seq ?_
      refine G_region ?_
      refine W_run 2 [(0, .slice p4621 x4619.length c4622), (1, .func (.func 239) #[] #[.pointer (some ⟨b4625, 0, none⟩)]), (5, .int .i64 s4651), (7, .int .i64 (x4619.length : Int)), (8, .int .i64 s4651)] w4655 (by kernel_rfl) ?_
      refine W_nil ?_
      refine N_then ?_
      refine G_seq ?_
      refine G_region ?_
      refine W_run 3 [(0, .slice p4621 x4619.length c4622), (1, .func (.func 239) #[] #[.pointer (some ⟨b4625, 0, none⟩)]), (5, .int .i64 s4651), (7, .int .i64 (x4619.length : Int)), (8, .int .i64 s4651), (11, .func (.func 239) #[] #[.pointer (some ⟨b4625, 0, none⟩)]), (12, .slice p4621 x4619.length c4622), (13, .int .i64 s4651)] w4655 (by kernel_rfl) ?_
      obtain ⟨y4663, hy4663, hm⟩ := gx_bind hm
      refine W_val (elemP p4621 (s4651.toNat * 2)) w4655 (by kernel_rfl) (E_index (E := encWaiter) _ _ _ x4619.length c4622 .i64 s4651 2 (y := y4663) rfl (by kernel_rfl) (by kernel_rfl) (by kernel_rfl) (h4623.mem0 M4656) rfl hy4663) ?_
      refine W_val (.agg #[.int .i64 y4663.Irq, .int .i64 y4663.Priority]) w4655 (by kernel_rfl) (E_loadE (E := encWaiter) _ _ true 2 s4651 0 (s4651.toNat * 2) y4663 (.agg #[.int .i64 y4663.Irq, .int .i64 y4663.Priority]) rfl (by kernel_rfl) (by kernel_rfl) (by kernel_rfl) (h4623.mem0 M4656) hy4663 rfl) ?_
      obtain ⟨r4664, hr4664, hm⟩ := gx_bind hm
      refine W_call 239 #[.agg #[.int .i64 y4663.Irq, .int .i64 y4663.Priority], .pointer (some ⟨b4625, 0, none⟩)] (by kernel_rfl) (by kernel_rfl) ?_
      refine (c_i_waiterIndex_1 w4655 y4663 x4624 b4625 (M4656.ro hb4626) hr4664).mono ?_
      rintro e_ w4665 ⟨rfl, K4666⟩
      have M4667 := M4656.call0 K4666
      refine ⟨_, rfl, ?_⟩
      refine W_nil ?_
      refine N_then ?_
      rcases gx_bif hm with ⟨hc4668, hm⟩ | ⟨hc4668, hm⟩
      · refine G_cond_t (b := r4664) hc4668 (by kernel_rfl) ?_
        refine G_seq ?_
        refine G_region ?_
        refine W_run 2 [(4, .int .i64 s4651)] w4665 (by kernel_rfl) ?_
        refine W_nil ?_
        refine N_then ?_
        refine G_ret ?_
        refine N_block_ret ?_
        refine N_then_ret ?_
        refine N_then_ret ?_
        obtain rfl := Option.some.inj hm
        obtain rfl := hout4653 _ rfl
        have hm := hmo4660; simp only [Sum.elim_inr] at hm
        refine N_block_ret ?_
        refine N_meet_ret ?_
        refine N_then_ret ?_
        obtain rfl := Option.some.inj hm
        refine N_ret [.int .i64 s4651] (RVs_cons (RV_tmp (by kernel_rfl)) RVs_nil) ?_
        exact ⟨rfl, M4667.pick [] (by kernel_rfl)⟩
      · refine G_cond_f (b := r4664) hc4668 (by kernel_rfl) ?_
        refine G_skip ?_
        refine N_block ?_
        refine N_then ?_
        refine G_region ?_
        refine W_run 2 [(0, .slice p4621 x4619.length c4622), (1, .func (.func 239) #[] #[.pointer (some ⟨b4625, 0, none⟩)]), (7, .int .i64 (x4619.length : Int)), (8, .int .i64 (w64 (s4651 + 1)))] w4665 (by kernel_rfl) ?_
        refine W_nil ?_
        obtain rfl := Option.some.inj hm
        exact N_loop fun a ha => ⟨_, rfl, M4667.pick [] (by kernel_rfl), ha.sub (by kernel_rfl)⟩
    · refine G_cond_f (b := (decide (s4651 < (x4619.length : Int)))) hc4662 (by kernel_rfl) ?_
      refine G_exit ?_
      refine N_then_exit ?_
      refine N_then_exit ?_
      refine N_block_eq ?_
      obtain rfl := Option.some.inj hm
      obtain rfl := hout4653 _ rfl
      exact N_meet fun a ha => ⟨_, rfl, M4656.pick [] (by kernel_rfl), ha.sub (by kernel_rfl)⟩
  · intro a4669 w4670 ⟨o4661, hout_, M4671, hS4672⟩
    refine N_use hS4672 ?_
    subst hout_
    have hm := hmo4660; simp only [Sum.elim_inl] at hm
    refine N_then ?_
    refine G_seq ?_
    refine G_region ?_
    refine W_run 1 [(4, .int .i64 (-1))] w4670 (by kernel_rfl) ?_
    refine W_nil ?_
    refine N_then ?_
    refine G_ret ?_
    obtain rfl := Option.some.inj hm
    refine N_ret [.int .i64 (-1)] (RVs_cons (RV_tmp (by kernel_rfl)) RVs_nil) ?_
    exact ⟨rfl, M4671.pick [] (by kernel_rfl)⟩
theorem c_i_waiterIndex (w : World) (x4609 : List Waiter) (p4611 : Option Addr) (c4612 : Nat) (h4613 : rdS encWaiter w x4609 p4611 c4612) (x4614 : Int) {r : Int} (hm : M.i_waiterIndex x4609 x4614 = some r) :
    Calls Tryz.prog 196 #[.slice p4611 x4609.length c4612, .int .i64 x4614] w fun e w' => e = .returned (.int .i64 r) ∧ Mem [] w w' [] := by
  unfold M.i_waiterIndex at hm
  refine C_enter Tryz.func196 rfl (by kernel_rfl) ?_
  have M0 := Mem.refl [] w
  refine G_seq ?_
  refine G_region ?_
  refine W_new (fun b => .pointer (some ⟨b, 0, none⟩)) (.cells ⟨[.int .i64 x4614]⟩ 3 (0, 0)) M0 rfl (by kernel_rfl) (by kernel_rfl) ?_
  intro b4616 w4617 M4618
  refine W_run 1 [(0, .slice p4611 x4609.length c4612), (3, .pointer (some ⟨b4616, 0, none⟩))] w4617 (by kernel_rfl) ?_
  refine W_nil ?_
  refine N_then ?_
  refine G_seq ?_
  refine G_region ?_
  refine W_run 2 [(5, .slice p4611 x4609.length c4612), (6, .func (.func 239) #[] #[.pointer (some ⟨b4616, 0, none⟩)])] w4617 (by kernel_rfl) ?_
  obtain ⟨r4673, hr4673, hm⟩ := gx_bind hm
  refine W_call 166 #[.slice p4611 x4609.length c4612, .func (.func 239) #[] #[.pointer (some ⟨b4616, 0, none⟩)]] (by kernel_rfl) (by kernel_rfl) ?_
  refine (c_slices_IndexFunc_166__i_waiterIndex_1 w4617 x4609 p4611 c4612 (h4613.mem0 M4618) x4614 b4616 (M4618.blk 0 (b := b4616) (o := .cells ⟨[.int .i64 x4614]⟩ 3 (0, 0)) (by kernel_rfl)) hr4673).mono ?_
  rintro e_ w4674 ⟨rfl, K4675⟩
  have M4676 := M4618.call0 K4675
  refine ⟨_, rfl, ?_⟩
  refine W_run 1 [(4, .int .i64 r4673)] w4674 (by kernel_rfl) ?_
  refine W_nil ?_
  refine N_then ?_
  refine G_ret ?_
  obtain rfl := Option.some.inj hm
  refine N_ret [.int .i64 r4673] (RVs_cons (RV_tmp (by kernel_rfl)) RVs_nil) ?_
  exact ⟨rfl, M4676.pick [] (by kernel_rfl)⟩
theorem c_cmp_isNaN_222 (w : World) (x4700 : Int) {r : Bool} (hm : M.cmp_isNaN_222 x4700 = some r) :
    Calls Tryz.prog 222 #[.int .i64 x4700] w fun e w' => e = .returned (.bool r) ∧ Mem [] w w' [] := by
  unfold M.cmp_isNaN_222 at hm
  refine C_enter Tryz.func222 rfl (by kernel_rfl) ?_
  have M0 := Mem.refl [] w
  refine G_seq ?_
  refine G_region ?_
  refine W_run 1 [(0, .int .i64 x4700)] w (by kernel_rfl) ?_
  refine W_nil ?_
  refine N_then ?_
  refine G_seq ?_
  refine G_region ?_
  refine W_run 4 [(2, .bool (x4700 != x4700))] w (by kernel_rfl) ?_
  refine W_nil ?_
  refine N_then ?_
  refine G_ret ?_
  obtain rfl := Option.some.inj hm
  refine N_ret [.bool (x4700 != x4700)] (RVs_cons (RV_tmp (by kernel_rfl)) RVs_nil) ?_
  exact ⟨rfl, M0.pick [] (by kernel_rfl)⟩
theorem c_cmp_Compare_170 (w : World) (x4698 : Int) (x4699 : Int) {r : Int} (hm : M.cmp_Compare_170 x4698 x4699 = some r) :
    Calls Tryz.prog 170 #[.int .i64 x4698, .int .i64 x4699] w fun e w' => e = .returned (.int .i64 r) ∧ Mem [] w w' [] := by
  unfold M.cmp_Compare_170 at hm
  refine C_enter Tryz.func170 rfl (by kernel_rfl) ?_
  have M0 := Mem.refl [] w
  refine G_seq ?_
  refine G_region ?_
  refine W_run 1 [(0, .int .i64 x4698), (1, .int .i64 x4699)] w (by kernel_rfl) ?_
  refine W_nil ?_
  refine N_then ?_
  refine G_seq ?_
  refine G_region ?_
  refine W_run 1 [(0, .int .i64 x4698), (1, .int .i64 x4699), (7, .int .i64 x4698)] w (by kernel_rfl) ?_
  obtain ⟨r4701, hr4701, hm⟩ := gx_bind hm
  refine W_call 222 #[.int .i64 x4698] (by kernel_rfl) (by kernel_rfl) ?_
  refine (c_cmp_isNaN_222 w x4698 hr4701).mono ?_
  rintro e_ w4702 ⟨rfl, K4703⟩
  have M4704 := M0.call0 K4703
  refine ⟨_, rfl, ?_⟩
  refine W_run 1 [(0, .int .i64 x4698), (1, .int .i64 x4699), (5, .bool r4701)] w4702 (by kernel_rfl) ?_
  refine W_nil ?_
  refine N_then ?_
  refine G_seq ?_
  refine G_region ?_
  refine W_run 1 [(0, .int .i64 x4698), (1, .int .i64 x4699), (5, .bool r4701), (9, .int .i64 x4699)] w4702 (by kernel_rfl) ?_
  obtain ⟨r4705, hr4705, hm⟩ := gx_bind hm
  refine W_call 222 #[.int .i64 x4699] (by kernel_rfl) (by kernel_rfl) ?_
  refine (c_cmp_isNaN_222 w4702 x4699 hr4705).mono ?_
  rintro e_ w4706 ⟨rfl, K4707⟩
  have M4708 := M4704.call0 K4707
  refine ⟨_, rfl, ?_⟩
  refine W_run 1 [(0, .int .i64 x4698), (1, .int .i64 x4699), (5, .bool r4701), (6, .bool r4705)] w4706 (by kernel_rfl) ?_
  refine W_nil ?_
  refine N_then ?_
  refine G_seq ?_
  refine G_seq ?_
  refine G_region ?_
  refine W_run 1 [(0, .int .i64 x4698), (1, .int .i64 x4699), (6, .bool r4705), (11, .bool r4701)] w4706 (by kernel_rfl) ?_
  refine W_nil ?_
  refine N_then ?_
  rcases gx_bif hm with ⟨hc4709, hm⟩ | ⟨hc4709, hm⟩
  · refine G_cond_t (b := r4701) hc4709 (by kernel_rfl) ?_
    refine G_seq ?_
    refine G_seq ?_
    refine G_region ?_
    refine W_run 1 [(12, .bool r4705)] w4706 (by kernel_rfl) ?_
    refine W_nil ?_
    refine N_then ?_
    rcases gx_bif hm with ⟨hc4710, hm⟩ | ⟨hc4710, hm⟩
    · refine G_cond_t (b := r4705) hc4710 (by kernel_rfl) ?_
      refine G_seq ?_
      refine G_region ?_
      refine W_run 1 [(4, .int .i64 0)] w4706 (by kernel_rfl) ?_
      refine W_nil ?_
      refine N_then ?_
      refine G_ret ?_
      refine N_then_ret ?_
      refine N_then_ret ?_
      obtain rfl := Option.some.inj hm
      refine N_ret [.int .i64 0] (RVs_cons (RV_tmp (by kernel_rfl)) RVs_nil) ?_
      exact ⟨rfl, M4708.pick [] (by kernel_rfl)⟩
    · refine G_cond_f (b := r4705) hc4710 (by kernel_rfl) ?_
      refine G_skip ?_
      refine N_then ?_
      refine G_seq ?_
      refine G_region ?_
      refine W_run 1 [(4, .int .i64 (-1))] w4706 (by kernel_rfl) ?_
      refine W_nil ?_
      refine N_then ?_
      refine G_ret ?_
      refine N_then_ret ?_
      obtain rfl := Option.some.inj hm
      refine N_ret [.int .i64 (-1)] (RVs_cons (RV_tmp (by kernel_rfl)) RVs_nil) ?_
      exact ⟨rfl, M4708.pick [] (by kernel_rfl)⟩
  · refine G_cond_f (b := r4701) hc4709 (by kernel_rfl) ?_
    refine G_skip ?_
    refine N_then ?_
    refine G_seq ?_
    refine G_seq ?_
    refine G_region ?_
    refine W_run 1 [(0, .int .i64 x4698), (1, .int .i64 x4699), (13, .bool r4705)] w4706 (by kernel_rfl) ?_
    refine W_nil ?_
    refine N_then ?_
    rcases gx_bif hm with ⟨hc4711, hm⟩ | ⟨hc4711, hm⟩
    · refine G_cond_t (b := r4705) hc4711 (by kernel_rfl) ?_
      refine G_seq ?_
      refine G_region ?_
      refine W_run 1 [(4, .int .i64 1)] w4706 (by kernel_rfl) ?_
      refine W_nil ?_
      refine N_then ?_
      refine G_ret ?_
      refine N_then_ret ?_
      obtain rfl := Option.some.inj hm
      refine N_ret [.int .i64 1] (RVs_cons (RV_tmp (by kernel_rfl)) RVs_nil) ?_
      exact ⟨rfl, M4708.pick [] (by kernel_rfl)⟩
    · refine G_cond_f (b := r4705) hc4711 (by kernel_rfl) ?_
      refine G_skip ?_
      refine N_then ?_
      refine G_seq ?_
      refine G_seq ?_
      refine G_region ?_
      refine W_run 3 [(0, .int .i64 x4698), (1, .int .i64 x4699), (16, .bool (decide (x4698 < x4699)))] w4706 (by kernel_rfl) ?_
      refine W_nil ?_
      refine N_then ?_
      rcases gx_bif hm with ⟨hc4712, hm⟩ | ⟨hc4712, hm⟩
      · refine G_cond_t (b := (decide (x4698 < x4699))) hc4712 (by kernel_rfl) ?_
        refine G_seq ?_
        refine G_region ?_
        refine W_run 1 [(4, .int .i64 (-1))] w4706 (by kernel_rfl) ?_
        refine W_nil ?_
        refine N_then ?_
        refine G_ret ?_
        refine N_then_ret ?_
        obtain rfl := Option.some.inj hm
        refine N_ret [.int .i64 (-1)] (RVs_cons (RV_tmp (by kernel_rfl)) RVs_nil) ?_
        exact ⟨rfl, M4708.pick [] (by kernel_rfl)⟩
      · refine G_cond_f (b := (decide (x4698 < x4699))) hc4712 (by kernel_rfl) ?_
        refine G_skip ?_
        refine N_then ?_
        refine G_seq ?_
        refine G_seq ?_
        refine G_region ?_
        refine W_run 3 [(19, .bool (decide (x4698 > x4699)))] w4706 (by kernel_rfl) ?_
        refine W_nil ?_
        refine N_then ?_
        rcases gx_bif hm with ⟨hc4713, hm⟩ | ⟨hc4713, hm⟩
        · refine G_cond_t (b := (decide (x4698 > x4699))) hc4713 (by kernel_rfl) ?_
          refine G_seq ?_
          refine G_region ?_
          refine W_run 1 [(4, .int .i64 1)] w4706 (by kernel_rfl) ?_
          refine W_nil ?_
          refine N_then ?_
          refine G_ret ?_
          refine N_then_ret ?_
          obtain rfl := Option.some.inj hm
          refine N_ret [.int .i64 1] (RVs_cons (RV_tmp (by kernel_rfl)) RVs_nil) ?_
          exact ⟨rfl, M4708.pick [] (by kernel_rfl)⟩
        · refine G_cond_f (b := (decide (x4698 > x4699))) hc4713 (by kernel_rfl) ?_
          refine G_skip ?_
          refine N_then ?_
          refine G_seq ?_
          refine G_region ?_
          refine W_run 1 [(4, .int .i64 0)] w4706 (by kernel_rfl) ?_
          refine W_nil ?_
          refine N_then ?_
          refine G_ret ?_
          obtain rfl := Option.some.inj hm
          refine N_ret [.int .i64 0] (RVs_cons (RV_tmp (by kernel_rfl)) RVs_nil) ?_
          exact ⟨rfl, M4708.pick [] (by kernel_rfl)⟩
theorem c_cmp_Or_169 (w : World) (x4766 : List Int) (p4768 : Option Addr) (c4769 : Nat) (h4770 : rdS Gx.encI w x4766 p4768 c4769) {r : Int} (hm : M.cmp_Or_169 x4766 = some r) :
    Calls Tryz.prog 169 #[.slice p4768 x4766.length c4769] w fun e w' => e = .returned (.int .i64 r) ∧ Mem [] w w' [] := by
  unfold M.cmp_Or_169 at hm
  refine C_enter Tryz.func169 rfl (by kernel_rfl) ?_
  have M0 := Mem.refl [] w
  refine G_seq ?_
  refine G_region ?_
  refine W_run 1 [(0, .slice p4768 x4766.length c4769)] w (by kernel_rfl) ?_
  refine W_nil ?_
  refine N_then ?_
  refine G_seq ?_
  refine G_region ?_
  refine W_run 1 [(0, .slice p4768 x4766.length c4769), (3, .int .i64 0)] w (by kernel_rfl) ?_
  refine W_nil ?_
  refine N_then ?_
  refine G_seq ?_
  refine G_seq ?_
  refine G_region ?_
  refine W_run 3 [(3, .int .i64 0), (6, .slice p4768 x4766.length c4769), (7, .int .i64 (x4766.length : Int)), (8, .int .i64 0)] w (by kernel_rfl) ?_
  refine W_nil ?_
  refine N_then ?_
  obtain ⟨out4784, hw4785, hmo4786⟩ := gx_bind hm
  refine G_meet (fun a w' => ∃ (o4787 : Unit), out4784 = .inl o4787 ∧ Mem [] w w' [] ∧ Sat Tryz.f169.ntmps [(3, .int .i64 0)] a) ?_ ?_
  · refine G_block ?_
    refine G_while (σ := Int) (ρ := (Unit) ⊕ (Int)) (fun s4777 a w' => Mem [] w w' [] ∧ Sat Tryz.f169.ntmps [(3, .int .i64 0), (6, .slice p4768 x4766.length c4769), (7, .int .i64 (x4766.length : Int)), (8, .int .i64 s4777)] a) hw4785 (fun a ha => ⟨M0.pick [] (by kernel_rfl), ha.sub (by kernel_rfl)⟩) ?_
    clear hm
    intro s4777 x4778 hm hout4779 a4780 w4781 ⟨M4782, hS4783⟩
    refine G_use hS4783 ?_
    refine G_seq ?_
    refine G_region ?_
    refine W_run 1 [(3, .int .i64 0), (6, .slice p4768 x4766.length c4769), (7, .int .i64 (x4766.length : Int)), (8, .int .i64 s4777), (9, .bool (decide (s4777 < (x4766.length : Int))))] w4781 (by kernel_rfl) ?_
    refine W_nil ?_
    refine N_then ?_
    refine G_seq ?_
    rcases gx_bif hm with ⟨hc4788, hm⟩ | ⟨hc4788, hm⟩
    · refine G_cond_t (b := (decide (s4777 < (x4766.length : Int)))) hc4788 (by kernel_rfl) ?_
      refine G_skip ?_
      refine N_then ?_
      refine G_seq ?_
      refine G_block ?_
      refine G_seq ?_
      refine G_region ?_
      obtain ⟨y4789, hy4789, hm⟩ := gx_bind hm
      refine W_val (elemP p4768 (s4777.toNat * 1)) w4781 (by kernel_rfl) (E_index (E := Gx.encI) _ _ _ x4766.length c4769 .i64 s4777 1 (y := y4789) rfl (by kernel_rfl) (by kernel_rfl) (by kernel_rfl) (h4770.mem0 M4782) rfl hy4789) ?_
      refine W_val (.int .i64 y4789) w4781 (by kernel_rfl) (E_loadE (E := Gx.encI) _ _ false 1 s4777 0 (s4777.toNat * 1) y4789 (.int .i64 y4789) rfl (by kernel_rfl) (by kernel_rfl) (by kernel_rfl) (h4770.mem0 M4782) hy4789 rfl) ?_
      refine W_run 1 [(3, .int .i64 0), (5, .int .i64 y4789), (6, .slice p4768 x4766.length c4769), (7, .int .i64 (x4766.length : Int)), (8, .int .i64 s4777)] w4781 (by kernel_rfl) ?_
      refine W_nil ?_
      refine N_then ?_
      refine G_seq ?_
      refine G_region ?_
      refine W_run 3 [(3, .int .i64 0), (5, .int .i64 y4789), (6, .slice p4768 x4766.length c4769), (7, .int .i64 (x4766.length : Int)), (8, .int .i64 s4777), (14, .bool (y4789 != 0))] w4781 (by kernel_rfl) ?_
      refine W_nil ?_
      refine N_then ?_
      rcases gx_bif hm with ⟨hc4790, hm⟩ | ⟨hc4790, hm⟩
      · refine G_cond_t (b := (y4789 != 0)) hc4790 (by kernel_rfl) ?_
        refine G_seq ?_
        refine G_region ?_
        refine W_run 2 [(2, .int .i64 y4789)] w4781 (by kernel_rfl) ?_
        refine W_nil ?_
        refine N_then ?_
        refine G_ret ?_
        refine N_block_ret ?_
        refine N_then_ret ?_
        refine N_then_ret ?_
        obtain rfl := Option.some.inj hm
        obtain rfl := hout4779 _ rfl
        have hm := hmo4786; simp only [Sum.elim_inr] at hm
        refine N_block_ret ?_
        refine N_meet_ret ?_
        refine N_then_ret ?_
        obtain rfl := Option.some.inj hm
        refine N_ret [.int .i64 y4789] (RVs_cons (RV_tmp (by kernel_rfl)) RVs_nil) ?_
        exact ⟨rfl, M4782.pick [] (by kernel_rfl)⟩
      · refine G_cond_f (b := (y4789 != 0)) hc4790 (by kernel_rfl) ?_
        refine G_skip ?_
        refine N_block ?_
        refine N_then ?_
        refine G_region ?_
        refine W_run 2 [(3, .int .i64 0), (6, .slice p4768 x4766.length c4769), (7, .int .i64 (x4766.length : Int)), (8, .int .i64 (w64 (s4777 + 1)))] w4781 (by kernel_rfl) ?_
        refine W_nil ?_
        obtain rfl := Option.some.inj hm
        exact N_loop fun a ha => ⟨_, rfl, M4782.pick [] (by kernel_rfl), ha.sub (by kernel_rfl)⟩
    · refine G_cond_f (b := (decide (s4777 < (x4766.length : Int)))) hc4788 (by kernel_rfl) ?_
      refine G_exit ?_
      refine N_then_exit ?_
      refine N_then_exit ?_
      refine N_block_eq ?_
      obtain rfl := Option.some.inj hm
      obtain rfl := hout4779 _ rfl
      exact N_meet fun a ha => ⟨_, rfl, M4782.pick [] (by kernel_rfl), ha.sub (by kernel_rfl)⟩
  · intro a4791 w4792 ⟨o4787, hout_, M4793, hS4794⟩
    refine N_use hS4794 ?_
    subst hout_
    have hm := hmo4786; simp only [Sum.elim_inl] at hm
    refine N_then ?_
    refine G_seq ?_
    refine G_region ?_
    refine W_run 2 [(2, .int .i64 0)] w4792 (by kernel_rfl) ?_
    refine W_nil ?_
    refine N_then ?_
    refine G_ret ?_
    obtain rfl := Option.some.inj hm
    refine N_ret [.int .i64 0] (RVs_cons (RV_tmp (by kernel_rfl)) RVs_nil) ?_
    exact ⟨rfl, M4793.pick [] (by kernel_rfl)⟩
theorem c_i_compareUrgency (w : World) (x4686 : Waiter) (x4687 : Waiter) {r : Int} (hm : M.i_compareUrgency x4686 x4687 = some r) :
    Calls Tryz.prog 129 #[.agg #[.int .i64 x4686.Irq, .int .i64 x4686.Priority], .agg #[.int .i64 x4687.Irq, .int .i64 x4687.Priority]] w fun e w' => e = .returned (.int .i64 r) ∧ Mem [] w w' [] := by
  unfold M.i_compareUrgency at hm
  refine C_enter Tryz.func129 rfl (by kernel_rfl) ?_
  have M0 := Mem.refl [] w
  refine G_seq ?_
  refine G_region ?_
  refine W_new (fun b => .pointer (some ⟨b, 0, none⟩)) (.cells ⟨[.int .i64 x4686.Irq, .int .i64 x4686.Priority]⟩ 142 (0, 0)) M0 rfl (by kernel_rfl) (by kernel_rfl) ?_
  intro b4689 w4690 M4691
  refine W_new (fun b => .pointer (some ⟨b, 0, none⟩)) (.cells ⟨[.int .i64 x4687.Irq, .int .i64 x4687.Priority]⟩ 142 (0, 0)) M4691 rfl (by kernel_rfl) (by kernel_rfl) ?_
  intro b4693 w4694 M4695
  refine W_run 1 [(2, .pointer (some ⟨b4689, 0, none⟩)), (3, .pointer (some ⟨b4693, 0, none⟩))] w4694 (by kernel_rfl) ?_
  refine W_nil ?_
  refine N_then ?_
  refine G_seq ?_
  obtain ⟨r4714, hr4714, hm⟩ := gx_bind hm
  refine G_sub [(2, .pointer (some ⟨b4689, 0, none⟩)), (3, .pointer (some ⟨b4693, 0, none⟩))] (by kernel_rfl) ?_
  refine G_dagL 9 [[], [0], [], [2], [1, 3], [], [5], [], [7]] [[], [], [], [], [], [], [], [], []] [[], [], [], [], [], [], [], [], []] [[], [], [], [], [], [], [], [], []] [[], [], [], [], [], [], [], [], []] [[], [], [], [], [], [], [], [], []] (fun _ => []) (fun i => ([fun f v s => v = (.pointer (some ⟨b4689, 1, none⟩) : Value) ∧ s = [], fun f v s => v = (.int .i64 x4686.Priority : Value) ∧ s = [], fun f v s => v = (.pointer (some ⟨b4693, 1, none⟩) : Value) ∧ s = [], fun f v s => v = (.int .i64 x4687.Priority : Value) ∧ s = [], fun f v s => v = (.int .i64 r4714 : Value) ∧ s = [], fun f v s => v = (.pointer (some ⟨b4689, 0, none⟩) : Value) ∧ s = [], fun f v s => v = (.int .i64 x4686.Irq : Value) ∧ s = [], fun f v s => v = (.pointer (some ⟨b4693, 0, none⟩) : Value) ∧ s = [], fun f v s => v = (.int .i64 x4687.Irq : Value) ∧ s = []] : List ((Nat → Value) → Value → Seg → Prop)).getD i (fun _ _ _ => False)) (fun j f v => ∃ s, (fun i => ([fun f v s => v = (.pointer (some ⟨b4689, 1, none⟩) : Value) ∧ s = [], fun f v s => v = (.int .i64 x4686.Priority : Value) ∧ s = [], fun f v s => v = (.pointer (some ⟨b4693, 1, none⟩) : Value) ∧ s = [], fun f v s => v = (.int .i64 x4687.Priority : Value) ∧ s = [], fun f v s => v = (.int .i64 r4714 : Value) ∧ s = [], fun f v s => v = (.pointer (some ⟨b4689, 0, none⟩) : Value) ∧ s = [], fun f v s => v = (.int .i64 x4686.Irq : Value) ∧ s = [], fun f v s => v = (.pointer (some ⟨b4693, 0, none⟩) : Value) ∧ s = [], fun f v s => v = (.int .i64 x4687.Irq : Value) ∧ s = []] : List ((Nat → Value) → Value → Seg → Prop)).getD i (fun _ _ _ => False)) j f v s) [] [4, 6, 8] [] (fun _ _ _ s h => ⟨s, h⟩) (by kernel_rfl) (by kernel_rfl) (M4695.preNil 9) (by kernel_rfl) (by kernel_rfl) (by kernel_rfl) (by kernel_rfl) (allOb_cons ?_ (allOb_cons ?_ (allOb_cons ?_ (allOb_cons ?_ (allOb_cons ?_ (allOb_cons ?_ (allOb_cons ?_ (allOb_cons ?_ (allOb_cons ?_ allOb_nil))))))))) ?_
  · intro g4696 f4697
    intro R w4715 M4716
    refine W_run 1 [(5, .pointer (some ⟨b4689, 1, none⟩))] w4715 (by kernel_rfl) ?_
    exact W_nil (ob_end (.pointer (some ⟨b4689, 1, none⟩)) [] rfl (by kernel_rfl) ⟨by kernel_rfl, rfl⟩ M4716)
  · intro g4696 f4697
    intro v0_ hb0_
    obtain ⟨rfl, _⟩ := hb0_
    intro R w4719 M4720
    refine W_val (.int .i64 x4686.Priority) w4719 (by kernel_rfl) (E_load (e := 142) (fr := (0, 0)) _ _ false 1 b4689 1 [.int .i64 x4686.Irq, .int .i64 x4686.Priority] (.int .i64 x4686.Priority) rfl (by kernel_rfl) (by kernel_rfl) (by kernel_rfl) (M4720.blk 0 (b := b4689) (o := .cells ⟨[.int .i64 x4686.Irq, .int .i64 x4686.Priority]⟩ 142 (0, 0)) (by kernel_rfl))) ?_
    exact W_nil (ob_end (.int .i64 x4686.Priority) [] rfl (by kernel_rfl) ⟨by kernel_rfl, rfl⟩ M4720)
  · intro g4696 f4697
    intro R w4723 M4724
    refine W_run 1 [(7, .pointer (some ⟨b4693, 1, none⟩))] w4723 (by kernel_rfl) ?_
    exact W_nil (ob_end (.pointer (some ⟨b4693, 1, none⟩)) [] rfl (by kernel_rfl) ⟨by kernel_rfl, rfl⟩ M4724)
  · intro g4696 f4697
    intro v2_ hb2_
    obtain ⟨rfl, _⟩ := hb2_
    intro R w4727 M4728
    refine W_val (.int .i64 x4687.Priority) w4727 (by kernel_rfl) (E_load (e := 142) (fr := (0, 0)) _ _ false 1 b4693 1 [.int .i64 x4687.Irq, .int .i64 x4687.Priority] (.int .i64 x4687.Priority) rfl (by kernel_rfl) (by kernel_rfl) (by kernel_rfl) (M4728.blk 1 (b := b4693) (o := .cells ⟨[.int .i64 x4687.Irq, .int .i64 x4687.Priority]⟩ 142 (0, 0)) (by kernel_rfl))) ?_
    exact W_nil (ob_end (.int .i64 x4687.Priority) [] rfl (by kernel_rfl) ⟨by kernel_rfl, rfl⟩ M4728)
  · intro g4696 f4697
    intro v1_ hb1_
    obtain ⟨rfl, _⟩ := hb1_
    intro v3_ hb3_
    obtain ⟨rfl, _⟩ := hb3_
    intro R w4731 M4732
    refine W_call 170 #[.int .i64 x4686.Priority, .int .i64 x4687.Priority] (by kernel_rfl) (by kernel_rfl) ?_
    refine (c_cmp_Compare_170 w4731 x4686.Priority x4687.Priority hr4714).mono ?_
    rintro e_ w4733 ⟨rfl, K4735⟩
    refine ⟨_, rfl, ?_⟩
    exact W_nil (ob_end (.int .i64 r4714) [] rfl (by kernel_rfl) ⟨rfl, rfl⟩ (M4732.call0 K4735))
  · intro g4696 f4697
    intro R w4736 M4737
    refine W_run 1 [(10, .pointer (some ⟨b4689, 0, none⟩))] w4736 (by kernel_rfl) ?_
    exact W_nil (ob_end (.pointer (some ⟨b4689, 0, none⟩)) [] rfl (by kernel_rfl) ⟨by kernel_rfl, rfl⟩ M4737)
  · intro g4696 f4697
    intro v5_ hb5_
    obtain ⟨rfl, _⟩ := hb5_
    intro R w4740 M4741
    refine W_val (.int .i64 x4686.Irq) w4740 (by kernel_rfl) (E_load (e := 142) (fr := (0, 0)) _ _ false 1 b4689 0 [.int .i64 x4686.Irq, .int .i64 x4686.Priority] (.int .i64 x4686.Irq) rfl (by kernel_rfl) (by kernel_rfl) (by kernel_rfl) (M4741.blk 0 (b := b4689) (o := .cells ⟨[.int .i64 x4686.Irq, .int .i64 x4686.Priority]⟩ 142 (0, 0)) (by kernel_rfl))) ?_
    exact W_nil (ob_end (.int .i64 x4686.Irq) [] rfl (by kernel_rfl) ⟨by kernel_rfl, rfl⟩ M4741)
  · intro g4696 f4697
    intro R w4744 M4745
    refine W_run 1 [(12, .pointer (some ⟨b4693, 0, none⟩))] w4744 (by kernel_rfl) ?_
    exact W_nil (ob_end (.pointer (some ⟨b4693, 0, none⟩)) [] rfl (by kernel_rfl) ⟨by kernel_rfl, rfl⟩ M4745)
  · intro g4696 f4697
    intro v7_ hb7_
    obtain ⟨rfl, _⟩ := hb7_
    intro R w4748 M4749
    refine W_val (.int .i64 x4687.Irq) w4748 (by kernel_rfl) (E_load (e := 142) (fr := (0, 0)) _ _ false 1 b4693 0 [.int .i64 x4687.Irq, .int .i64 x4687.Priority] (.int .i64 x4687.Irq) rfl (by kernel_rfl) (by kernel_rfl) (by kernel_rfl) (M4749.blk 1 (b := b4693) (o := .cells ⟨[.int .i64 x4687.Irq, .int .i64 x4687.Priority]⟩ 142 (0, 0)) (by kernel_rfl))) ?_
    exact W_nil (ob_end (.int .i64 x4687.Irq) [] rfl (by kernel_rfl) ⟨by kernel_rfl, rfl⟩ M4749)
  · intro g4696 f4697
    intro v4_ hb4_
    obtain ⟨rfl, _⟩ := hb4_
    intro v6_ hb6_
    obtain ⟨rfl, _⟩ := hb6_
    intro v8_ hb8_
    obtain ⟨rfl, _⟩ := hb8_
    intro w4752 M4753
    have M4754 : Mem [] w w4752 [[(b4689, .cells ⟨[.int .i64 x4686.Irq, .int .i64 x4686.Priority]⟩ 142 (0, 0))], [(b4693, .cells ⟨[.int .i64 x4687.Irq, .int .i64 x4687.Priority]⟩ 142 (0, 0))]] := M4753
    obtain ⟨r4755, hr4755, hm⟩ := gx_bind hm
    refine W_call 170 #[.int .i64 x4686.Irq, .int .i64 x4687.Irq] (by kernel_rfl) (by kernel_rfl) ?_
    refine (c_cmp_Compare_170 w4752 x4686.Irq x4687.Irq hr4755).mono ?_
    rintro e_ w4756 ⟨rfl, K4757⟩
    have M4758 := M4754.call0 K4757
    refine ⟨_, rfl, ?_⟩
    refine W_lit (E := Gx.encI) [r4714, r4755] 2 [.int .i64 r4714, .int .i64 r4755] 3 M4758 (by kernel_rfl) (by kernel_rfl) (by kernel_rfl) (by kernel_rfl) (by kernel_rfl) ?_
    intro p4759 c4760 sg4761 w4762 ho4763 M4764
    obtain ⟨r4795, hr4795, hm⟩ := gx_bind hm
    refine W_call 169 #[.slice p4759 [r4714, r4755].length c4760] (by kernel_rfl) (by kernel_rfl) ?_
    refine (c_cmp_Or_169 w4762 [r4714, r4755] p4759 c4760 (ho4763.rd M4764 2 (by kernel_rfl)) hr4795).mono ?_
    rintro e_ w4796 ⟨rfl, K4797⟩
    have M4798 := M4764.call0 K4797
    refine ⟨_, rfl, ?_⟩
    refine W_run 1 [(4, .int .i64 r4795)] w4796 (by kernel_rfl) ?_
    refine W_nil ?_
    refine N_then ?_
    refine G_ret ?_
    obtain rfl := Option.some.inj hm
    refine N_ret [.int .i64 r4795] (RVs_cons (RV_tmp (by kernel_rfl)) RVs_nil) ?_
    exact ⟨rfl, M4798.pick [] (by kernel_rfl)⟩
theorem c_i_areParts (w : World) (x4232 : List Slot) (p4234 : Option Addr) (c4235 : Nat) (h4236 : rdS encSlot w x4232 p4234 c4235) (x4237 : List Waiter) (p4239 : Option Addr) (c4240 : Nat) (h4241 : rdS encWaiter w x4237 p4239 c4240) {r : Bool} (hm : M.i_areParts x4232 x4237 = some r) :
    Calls Tryz.prog 160 #[.slice p4234 x4232.length c4235, .slice p4239 x4237.length c4240] w fun e w' => e = .returned (.bool r) ∧ Mem [] w w' [] := by
  unfold M.i_areParts at hm
  refine C_enter Tryz.func160 rfl (by kernel_rfl) ?_
  have M0 := Mem.refl [] w
  refine G_seq ?_
  refine G_region ?_
  refine W_run 1 [(0, .slice p4234 x4232.length c4235), (1, .slice p4239 x4237.length c4240)] w (by kernel_rfl) ?_
  refine W_nil ?_
  refine N_then ?_
  refine G_seq ?_
  refine G_seq ?_
  refine G_region ?_
  refine W_run 1 [(0, .slice p4234 x4232.length c4235), (1, .slice p4239 x4237.length c4240), (7, .slice p4234 x4232.length c4235)] w (by kernel_rfl) ?_
  obtain ⟨r4573, hr4573, hm⟩ := gx_bind hm
  refine W_call 195 #[.slice p4234 x4232.length c4235] (by kernel_rfl) (by kernel_rfl) ?_
  refine (c_i_AreSlots w x4232 p4234 c4235 (h4236.mem0 M0) hr4573).mono ?_
  rintro e_ w4574 ⟨rfl, K4575⟩
  have M4576 := M0.call0 K4575
  refine ⟨_, rfl, ?_⟩
  refine W_run 1 [(0, .slice p4234 x4232.length c4235), (1, .slice p4239 x4237.length c4240), (9, .bool (!r4573))] w4574 (by kernel_rfl) ?_
  refine W_nil ?_
  refine N_then ?_
  rcases gx_bif hm with ⟨hc4577, hm⟩ | ⟨hc4577, hm⟩
  · refine G_cond_t (b := (!r4573)) hc4577 (by kernel_rfl) ?_
    refine G_seq ?_
    refine G_region ?_
    refine W_run 1 [(4, .bool false)] w4574 (by kernel_rfl) ?_
    refine W_nil ?_
    refine N_then ?_
    refine G_ret ?_
    refine N_then_ret ?_
    obtain rfl := Option.some.inj hm
    refine N_ret [.bool false] (RVs_cons (RV_tmp (by kernel_rfl)) RVs_nil) ?_
    exact ⟨rfl, M4576.pick [] (by kernel_rfl)⟩
  · refine G_cond_f (b := (!r4573)) hc4577 (by kernel_rfl) ?_
    refine G_skip ?_
    refine N_then ?_
    refine G_seq ?_
    refine G_seq ?_
    refine G_region ?_
    refine W_run 3 [(0, .slice p4234 x4232.length c4235), (1, .slice p4239 x4237.length c4240), (10, .slice p4239 x4237.length c4240), (11, .int .i64 (x4237.length : Int)), (12, .int .i64 0)] w4574 (by kernel_rfl) ?_
    refine W_nil ?_
    refine N_then ?_
    obtain ⟨out4958, hw4959, hmo4960⟩ := gx_bind hm
    refine G_meet (fun a w' => ∃ (o4961 : Unit), out4958 = .inl o4961 ∧ Mem [] w w' [] ∧ Sat Tryz.f160.ntmps [] a) ?_ ?_
    · refine G_block ?_
      refine G_while (σ := Int) (ρ := (Unit) ⊕ (Bool)) (fun s4951 a w' => Mem [] w w' [] ∧ Sat Tryz.f160.ntmps [(0, .slice p4234 x4232.length c4235), (1, .slice p4239 x4237.length c4240), (10, .slice p4239 x4237.length c4240), (11, .int .i64 (x4237.length : Int)), (12, .int .i64 s4951)] a) hw4959 (fun a ha => ⟨M4576.pick [] (by kernel_rfl), ha.sub (by kernel_rfl)⟩) ?_
      clear hm
      intro s4951 x4952 hm hout4953 a4954 w4955 ⟨M4956, hS4957⟩
      refine G_use hS4957 ?_
      refine G_seq ?_
      refine G_region ?_
      refine W_run 1 [(0, .slice p4234 x4232.length c4235), (1, .slice p4239 x4237.length c4240), (10, .slice p4239 x4237.length c4240), (11, .int .i64 (x4237.length : Int)), (12, .int .i64 s4951), (13, .bool (decide (s4951 < (x4237.length : Int))))] w4955 (by kernel_rfl) ?_
      refine W_nil ?_
      refine N_then ?_
      refine G_seq ?_
      rcases gx_bif hm with ⟨hc4962, hm⟩ | ⟨hc4962, hm⟩
      · refine G_cond_t (b := (decide (s4951 < (x4237.length : Int)))) hc4962 (by kernel_rfl) ?_
        refine G_skip ?_
        refine N_then ?_
        refine G_seq ?_
        refine G_block ?_
        refine G_seq ?_
        refine G_region ?_
        refine W_run 1 [(0, .slice p4234 x4232.length c4235), (1, .slice p4239 x4237.length c4240), (10, .slice p4239 x4237.length c4240), (11, .int .i64 (x4237.length : Int)), (12, .int .i64 s4951), (14, .int .i64 s4951)] w4955 (by kernel_rfl) ?_
        obtain ⟨y4963, hy4963, hm⟩ := gx_bind hm
        refine W_val (elemP p4239 (s4951.toNat * 2)) w4955 (by kernel_rfl) (E_index (E := encWaiter) _ _ _ x4237.length c4240 .i64 s4951 2 (y := y4963) rfl (by kernel_rfl) (by kernel_rfl) (by kernel_rfl) (h4241.mem0 M4956) rfl hy4963) ?_
        refine W_val (.agg #[.int .i64 y4963.Irq, .int .i64 y4963.Priority]) w4955 (by kernel_rfl) (E_loadE (E := encWaiter) _ _ true 2 s4951 0 (s4951.toNat * 2) y4963 (.agg #[.int .i64 y4963.Irq, .int .i64 y4963.Priority]) rfl (by kernel_rfl) (by kernel_rfl) (by kernel_rfl) (h4241.mem0 M4956) hy4963 rfl) ?_
        refine W_new (fun b => .pointer (some ⟨b, 0, none⟩)) (.cells ⟨[.int .i64 0, .int .i64 0]⟩ 142 (0, 0)) M4956 rfl (by kernel_rfl) (by kernel_rfl) ?_
        intro b4965 w4966 M4967
        refine W_run 1 [(0, .slice p4234 x4232.length c4235), (1, .slice p4239 x4237.length c4240), (5, .int .i64 s4951), (6, .pointer (some ⟨b4965, 0, none⟩)), (10, .slice p4239 x4237.length c4240), (11, .int .i64 (x4237.length : Int)), (12, .int .i64 s4951), (16, .agg #[.int .i64 y4963.Irq, .int .i64 y4963.Priority])] w4966 (by kernel_rfl) ?_
        refine W_store _ _ _ true 2 b4965 0 [.int .i64 0, .int .i64 0] 142 (.agg #[.int .i64 y4963.Irq, .int .i64 y4963.Priority]) 0 [.int .i64 y4963.Irq, .int .i64 y4963.Priority] M4967 (by kernel_rfl) rfl (by kernel_rfl) (by kernel_rfl) (by kernel_rfl) (by kernel_rfl) (by kernel_rfl) (by kernel_rfl) (by kernel_rfl) (by kernel_rfl) ?_
        intro w4968 M4969
        refine W_nil ?_
        refine N_then ?_
        refine G_seq ?_
        obtain ⟨o5010, ho5011, hm5012⟩ := gx_bind hm
        refine G_meet (fun a w' => Mem [] w w' [] ∧ Sat Tryz.f160.ntmps [(0, .slice p4234 x4232.length c4235), (1, .slice p4239 x4237.length c4240), (10, .slice p4239 x4237.length c4240), (11, .int .i64 (x4237.length : Int)), (12, .int .i64 s4951), (56, .bool o5010)] a) ?_ ?_
        · have hm := ho5011
          refine G_quiet (by kernel_rfl) (by kernel_rfl) M4969 ?_
          refine Z_runs [.pointer (some ⟨b4965, 0, none⟩)] [(0, .slice p4234 x4232.length c4235), (1, .slice p4239 x4237.length c4240), (5, .int .i64 s4951), (6, .pointer (some ⟨b4965, 0, none⟩)), (10, .slice p4239 x4237.length c4240), (11, .int .i64 (x4237.length : Int)), (12, .int .i64 s4951), (17, .pointer (some ⟨b4965, 0, none⟩))] (fun w_ => by kernel_rfl) (by kernel_rfl) ?_
          refine Z_val (.int .i64 y4963.Irq) (by kernel_rfl) (fun w_ M_ => (E_load (e := 142) (fr := (0, 0)) _ _ false 1 b4965 0 [.int .i64 y4963.Irq, .int .i64 y4963.Priority] (.int .i64 y4963.Irq) rfl (by kernel_rfl) (by kernel_rfl) (by kernel_rfl) (M_.blk 0 (b := b4965) (o := .cells ⟨[.int .i64 y4963.Irq, .int .i64 y4963.Priority]⟩ 142 (0, 0)) (by kernel_rfl)))) ?_
          obtain ⟨r5013, hr5013, hm⟩ := gx_bind hm
          refine Z_call 144 #[.int .i64 y4963.Irq] (.bool r5013) (by kernel_rfl) (fun w_ => by kernel_rfl) (fun w_ M_ => (c_i_isIrq w_ y4963.Irq hr5013).mono fun e w2_ h_ => ⟨h_.1, M_.call0 h_.2⟩) ?_
          refine Z_runs [.bool (!r5013), .bool (!r5013)] [(0, .slice p4234 x4232.length c4235), (1, .slice p4239 x4237.length c4240), (5, .int .i64 s4951), (6, .pointer (some ⟨b4965, 0, none⟩)), (10, .slice p4239 x4237.length c4240), (11, .int .i64 (x4237.length : Int)), (12, .int .i64 s4951), (21, .bool (!r5013))] (fun w_ => by kernel_rfl) (by kernel_rfl) ?_
          rcases gx_bif hm with ⟨hc5017, hm⟩ | ⟨hc5017, hm⟩
          · refine Z_known 21 true (by kernel_rfl) hc5017 ?_
            refine Z_runs [undef, undef, undef, undef, .bool true, .bool true, undef, undef, undef, undef, undef, .bool true, .bool true, undef, undef, undef, undef, undef, undef, undef, .bool true, .bool true, undef, undef, undef, undef, undef, undef, undef, undef, undef, undef, undef, undef, .bool true] [(0, .slice p4234 x4232.length c4235), (1, .slice p4239 x4237.length c4240), (10, .slice p4239 x4237.length c4240), (11, .int .i64 (x4237.length : Int)), (12, .int .i64 s4951), (56, .bool true)] (fun w_ => by kernel_rfl) (by kernel_rfl) ?_
            refine Z_end fun w5018 M5019 => ?_
            obtain rfl := Option.some.inj hm
            exact N_meet fun a ha => ⟨M5019.pick [] (by kernel_rfl), ha.sub (by kernel_rfl)⟩
          · refine Z_known 21 false (by kernel_rfl) hc5017 ?_
            refine Z_runs [.pointer (some ⟨b4965, 1, none⟩)] [(0, .slice p4234 x4232.length c4235), (1, .slice p4239 x4237.length c4240), (5, .int .i64 s4951), (6, .pointer (some ⟨b4965, 0, none⟩)), (10, .slice p4239 x4237.length c4240), (11, .int .i64 (x4237.length : Int)), (12, .int .i64 s4951), (21, .bool false), (22, .pointer (some ⟨b4965, 1, none⟩))] (fun w_ => by kernel_rfl) (by kernel_rfl) ?_
            refine Z_val (.int .i64 y4963.Priority) (by kernel_rfl) (fun w_ M_ => (E_load (e := 142) (fr := (0, 0)) _ _ false 1 b4965 1 [.int .i64 y4963.Irq, .int .i64 y4963.Priority] (.int .i64 y4963.Priority) rfl (by kernel_rfl) (by kernel_rfl) (by kernel_rfl) (M_.blk 0 (b := b4965) (o := .cells ⟨[.int .i64 y4963.Irq, .int .i64 y4963.Priority]⟩ 142 (0, 0)) (by kernel_rfl)))) ?_
            obtain ⟨r5020, hr5020, hm⟩ := gx_bind hm
            refine Z_call 111 #[.int .i64 y4963.Priority] (.bool r5020) (by kernel_rfl) (fun w_ => by kernel_rfl) (fun w_ M_ => (c_i_isPriority w_ y4963.Priority hr5020).mono fun e w2_ h_ => ⟨h_.1, M_.call0 h_.2⟩) ?_
            refine Z_runs [.bool (!r5020), .bool (!r5020), .bool (!r5020)] [(0, .slice p4234 x4232.length c4235), (1, .slice p4239 x4237.length c4240), (5, .int .i64 s4951), (6, .pointer (some ⟨b4965, 0, none⟩)), (10, .slice p4239 x4237.length c4240), (11, .int .i64 (x4237.length : Int)), (12, .int .i64 s4951), (27, .bool (!r5020))] (fun w_ => by kernel_rfl) (by kernel_rfl) ?_
            rcases gx_bif hm with ⟨hc5024, hm⟩ | ⟨hc5024, hm⟩
            · refine Z_known 27 true (by kernel_rfl) hc5024 ?_
              refine Z_runs [undef, undef, undef, undef, undef, .bool true, .bool true, undef, undef, undef, undef, undef, undef, undef, .bool true, .bool true, undef, undef, undef, undef, undef, undef, undef, undef, undef, undef, undef, undef, .bool true] [(0, .slice p4234 x4232.length c4235), (1, .slice p4239 x4237.length c4240), (10, .slice p4239 x4237.length c4240), (11, .int .i64 (x4237.length : Int)), (12, .int .i64 s4951), (56, .bool true)] (fun w_ => by kernel_rfl) (by kernel_rfl) ?_
              refine Z_end fun w5025 M5026 => ?_
              obtain rfl := Option.some.inj hm
              exact N_meet fun a ha => ⟨M5026.pick [] (by kernel_rfl), ha.sub (by kernel_rfl)⟩
            · refine Z_known 27 false (by kernel_rfl) hc5024 ?_
              refine Z_runs [.slice p4234 x4232.length c4235, .pointer (some ⟨b4965, 0, none⟩)] [(0, .slice p4234 x4232.length c4235), (1, .slice p4239 x4237.length c4240), (5, .int .i64 s4951), (6, .pointer (some ⟨b4965, 0, none⟩)), (10, .slice p4239 x4237.length c4240), (11, .int .i64 (x4237.length : Int)), (12, .int .i64 s4951), (27, .bool false), (28, .slice p4234 x4232.length c4235), (29, .pointer (some ⟨b4965, 0, none⟩))] (fun w_ => by kernel_rfl) (by kernel_rfl) ?_
              refine Z_val (.int .i64 y4963.Irq) (by kernel_rfl) (fun w_ M_ => (E_load (e := 142) (fr := (0, 0)) _ _ false 1 b4965 0 [.int .i64 y4963.Irq, .int .i64 y4963.Priority] (.int .i64 y4963.Irq) rfl (by kernel_rfl) (by kernel_rfl) (by kernel_rfl) (M_.blk 0 (b := b4965) (o := .cells ⟨[.int .i64 y4963.Irq, .int .i64 y4963.Priority]⟩ 142 (0, 0)) (by kernel_rfl)))) ?_
              obtain ⟨r5027, hr5027, hm⟩ := gx_bind hm
              refine Z_call 165 #[.slice p4234 x4232.length c4235, .int .i64 y4963.Irq] (.int .i64 r5027) (by kernel_rfl) (fun w_ => by kernel_rfl) (fun w_ M_ => (c_i_findSlot w_ x4232 p4234 c4235 (h4236.mem0 M_) y4963.Irq hr5027).mono fun e w2_ h_ => ⟨h_.1, M_.call0 h_.2⟩) ?_
              refine Z_runs [.bool (decide (r5027 ≥ 0)), .bool (decide (r5027 ≥ 0)), .bool (decide (r5027 ≥ 0))] [(0, .slice p4234 x4232.length c4235), (1, .slice p4239 x4237.length c4240), (5, .int .i64 s4951), (6, .pointer (some ⟨b4965, 0, none⟩)), (10, .slice p4239 x4237.length c4240), (11, .int .i64 (x4237.length : Int)), (12, .int .i64 s4951), (34, .bool (decide (r5027 ≥ 0)))] (fun w_ => by kernel_rfl) (by kernel_rfl) ?_
              rcases gx_bif hm with ⟨hc5031, hm⟩ | ⟨hc5031, hm⟩
              · refine Z_known 34 true (by kernel_rfl) hc5031 ?_
                refine Z_runs [undef, undef, undef, undef, undef, undef, undef, .bool true, .bool true, undef, undef, undef, undef, undef, undef, undef, undef, undef, undef, undef, undef, .bool true] [(0, .slice p4234 x4232.length c4235), (1, .slice p4239 x4237.length c4240), (10, .slice p4239 x4237.length c4240), (11, .int .i64 (x4237.length : Int)), (12, .int .i64 s4951), (56, .bool true)] (fun w_ => by kernel_rfl) (by kernel_rfl) ?_
                refine Z_end fun w5032 M5033 => ?_
                obtain rfl := Option.some.inj hm
                exact N_meet fun a ha => ⟨M5033.pick [] (by kernel_rfl), ha.sub (by kernel_rfl)⟩
              · refine Z_known 34 false (by kernel_rfl) hc5031 ?_
                refine Z_runs [.slice p4239 x4237.length c4240, .int .i64 s4951] [(0, .slice p4234 x4232.length c4235), (1, .slice p4239 x4237.length c4240), (5, .int .i64 s4951), (6, .pointer (some ⟨b4965, 0, none⟩)), (10, .slice p4239 x4237.length c4240), (11, .int .i64 (x4237.length : Int)), (12, .int .i64 s4951), (34, .bool false), (35, .slice p4239 x4237.length c4240), (36, .int .i64 s4951)] (fun w_ => by kernel_rfl) (by kernel_rfl) ?_
                obtain ⟨ys5034, hys5034, hm⟩ := gx_bind hm
                refine Z_val (.slice (subP p4239 (0 : Int).toNat c4240 2) ys5034.length (c4240 - (0 : Int).toNat)) (by kernel_rfl) (fun w_ M_ => (E_slice (E := encWaiter) _ _ _ _ x4237.length 0 s4951 rfl (by kernel_rfl) (Or.inl ⟨rfl, rfl⟩) (Or.inr ⟨_, rfl, by kernel_rfl⟩) (by kernel_rfl) (h4241.mem0 M_) rfl hys5034)) ?_
                refine Z_runs [.pointer (some ⟨b4965, 0, none⟩)] [(0, .slice p4234 x4232.length c4235), (1, .slice p4239 x4237.length c4240), (5, .int .i64 s4951), (6, .pointer (some ⟨b4965, 0, none⟩)), (10, .slice p4239 x4237.length c4240), (11, .int .i64 (x4237.length : Int)), (12, .int .i64 s4951), (34, .bool false), (37, .slice (subP p4239 (0 : Int).toNat c4240 2) ys5034.length (c4240 - (0 : Int).toNat)), (38, .pointer (some ⟨b4965, 0, none⟩))] (fun w_ => by kernel_rfl) (by kernel_rfl) ?_
                refine Z_val (.int .i64 y4963.Irq) (by kernel_rfl) (fun w_ M_ => (E_load (e := 142) (fr := (0, 0)) _ _ false 1 b4965 0 [.int .i64 y4963.Irq, .int .i64 y4963.Priority] (.int .i64 y4963.Irq) rfl (by kernel_rfl) (by kernel_rfl) (by kernel_rfl) (M_.blk 0 (b := b4965) (o := .cells ⟨[.int .i64 y4963.Irq, .int .i64 y4963.Priority]⟩ 142 (0, 0)) (by kernel_rfl)))) ?_
                obtain ⟨r5036, hr5036, hm⟩ := gx_bind hm
                refine Z_call 196 #[.slice (subP p4239 (0 : Int).toNat c4240 2) ys5034.length (c4240 - (0 : Int).toNat), .int .i64 y4963.Irq] (.int .i64 r5036) (by kernel_rfl) (fun w_ => by kernel_rfl) (fun w_ M_ => (c_i_waiterIndex w_ ys5034 (subP p4239 (0 : Int).toNat c4240 2) (c4240 - (0 : Int).toNat) ((h4241.mem0 M_).sliceM hys5034) y4963.Irq hr5036).mono fun e w2_ h_ => ⟨h_.1, M_.call0 h_.2⟩) ?_
                refine Z_runs [.bool (decide (r5036 ≥ 0)), .bool (decide (r5036 ≥ 0)), .bool (decide (r5036 ≥ 0))] [(0, .slice p4234 x4232.length c4235), (1, .slice p4239 x4237.length c4240), (5, .int .i64 s4951), (6, .pointer (some ⟨b4965, 0, none⟩)), (10, .slice p4239 x4237.length c4240), (11, .int .i64 (x4237.length : Int)), (12, .int .i64 s4951), (43, .bool (decide (r5036 ≥ 0)))] (fun w_ => by kernel_rfl) (by kernel_rfl) ?_
                rcases gx_bif hm with ⟨hc5040, hm⟩ | ⟨hc5040, hm⟩
                · refine Z_known 43 true (by kernel_rfl) hc5040 ?_
                  refine Z_runs [undef, undef, undef, undef, undef, undef, undef, undef, undef, undef, undef, undef, .bool true] [(0, .slice p4234 x4232.length c4235), (1, .slice p4239 x4237.length c4240), (10, .slice p4239 x4237.length c4240), (11, .int .i64 (x4237.length : Int)), (12, .int .i64 s4951), (56, .bool true)] (fun w_ => by kernel_rfl) (by kernel_rfl) ?_
                  refine Z_end fun w5041 M5042 => ?_
                  obtain rfl := Option.some.inj hm
                  exact N_meet fun a ha => ⟨M5042.pick [] (by kernel_rfl), ha.sub (by kernel_rfl)⟩
                · refine Z_known 43 false (by kernel_rfl) hc5040 ?_
                  refine Z_runs [.int .i64 s4951, .bool (decide (s4951 > 0)), .bool (decide (s4951 > 0))] [(0, .slice p4234 x4232.length c4235), (1, .slice p4239 x4237.length c4240), (5, .int .i64 s4951), (6, .pointer (some ⟨b4965, 0, none⟩)), (10, .slice p4239 x4237.length c4240), (11, .int .i64 (x4237.length : Int)), (12, .int .i64 s4951), (43, .bool false), (46, .bool (decide (s4951 > 0)))] (fun w_ => by kernel_rfl) (by kernel_rfl) ?_
                  rcases gx_bif hm with ⟨hc5043, hm⟩ | ⟨hc5043, hm⟩
                  · refine Z_known 46 true (by kernel_rfl) hc5043 ?_
                    refine Z_runs [.slice p4239 x4237.length c4240, .int .i64 s4951, .int .i64 (w64 (s4951 - 1))] [(0, .slice p4234 x4232.length c4235), (1, .slice p4239 x4237.length c4240), (6, .pointer (some ⟨b4965, 0, none⟩)), (10, .slice p4239 x4237.length c4240), (11, .int .i64 (x4237.length : Int)), (12, .int .i64 s4951), (43, .bool false), (46, .bool true), (47, .slice p4239 x4237.length c4240), (49, .int .i64 (w64 (s4951 - 1)))] (fun w_ => by kernel_rfl) (by kernel_rfl) ?_
                    obtain ⟨y5044, hy5044, hm⟩ := gx_bind hm
                    refine Z_val (elemP p4239 ((w64 (s4951 - 1)).toNat * 2)) (by kernel_rfl) (fun w_ M_ => (E_index (E := encWaiter) _ _ _ x4237.length c4240 .i64 (w64 (s4951 - 1)) 2 (y := y5044) rfl (by kernel_rfl) (by kernel_rfl) (by kernel_rfl) (h4241.mem0 M_) rfl hy5044)) ?_
                    refine Z_val (.agg #[.int .i64 y5044.Irq, .int .i64 y5044.Priority]) (by kernel_rfl) (fun w_ M_ => (E_loadE (E := encWaiter) _ _ true 2 (w64 (s4951 - 1)) 0 ((w64 (s4951 - 1)).toNat * 2) y5044 (.agg #[.int .i64 y5044.Irq, .int .i64 y5044.Priority]) rfl (by kernel_rfl) (by kernel_rfl) (by kernel_rfl) (h4241.mem0 M_) hy5044 rfl)) ?_
                    refine Z_val (.agg #[.int .i64 y4963.Irq, .int .i64 y4963.Priority]) (by kernel_rfl) (fun w_ M_ => (E_load (e := 142) (fr := (0, 0)) _ _ true 2 b4965 0 [.int .i64 y4963.Irq, .int .i64 y4963.Priority] (.agg #[.int .i64 y4963.Irq, .int .i64 y4963.Priority]) rfl (by kernel_rfl) (by kernel_rfl) (by kernel_rfl) (M_.blk 0 (b := b4965) (o := .cells ⟨[.int .i64 y4963.Irq, .int .i64 y4963.Priority]⟩ 142 (0, 0)) (by kernel_rfl)))) ?_
                    obtain ⟨r5045, hr5045, hm⟩ := gx_bind hm
                    refine Z_call 129 #[.agg #[.int .i64 y5044.Irq, .int .i64 y5044.Priority], .agg #[.int .i64 y4963.Irq, .int .i64 y4963.Priority]] (.int .i64 r5045) (by kernel_rfl) (fun w_ => by kernel_rfl) (fun w_ M_ => (c_i_compareUrgency w_ y5044 y4963 hr5045).mono fun e w2_ h_ => ⟨h_.1, M_.call0 h_.2⟩) ?_
                    refine Z_runs [.bool (decide (r5045 ≥ 0)), .bool (decide (r5045 ≥ 0)), .bool (decide (r5045 ≥ 0))] [(0, .slice p4234 x4232.length c4235), (1, .slice p4239 x4237.length c4240), (10, .slice p4239 x4237.length c4240), (11, .int .i64 (x4237.length : Int)), (12, .int .i64 s4951), (56, .bool (decide (r5045 ≥ 0)))] (fun w_ => by kernel_rfl) (by kernel_rfl) ?_
                    refine Z_end fun w5049 M5050 => ?_
                    obtain rfl := Option.some.inj hm
                    exact N_meet fun a ha => ⟨M5050.pick [] (by kernel_rfl), ha.sub (by kernel_rfl)⟩
                  · refine Z_known 46 false (by kernel_rfl) hc5043 ?_
                    refine Z_runs [undef, undef, undef, undef, undef, undef, undef, undef, .bool false, .bool false] [(0, .slice p4234 x4232.length c4235), (1, .slice p4239 x4237.length c4240), (10, .slice p4239 x4237.length c4240), (11, .int .i64 (x4237.length : Int)), (12, .int .i64 s4951), (56, .bool false)] (fun w_ => by kernel_rfl) (by kernel_rfl) ?_
                    refine Z_end fun w5051 M5052 => ?_
                    obtain rfl := Option.some.inj hm
                    exact N_meet fun a ha => ⟨M5052.pick [] (by kernel_rfl), ha.sub (by kernel_rfl)⟩
        · intro a5055 w5053 ⟨M5054, hS5056⟩
          refine N_use hS5056 ?_
          have hm := hm5012
          refine N_then ?_
          rcases gx_bif hm with ⟨hc5057, hm⟩ | ⟨hc5057, hm⟩
          · refine G_cond_t (b := o5010) hc5057 (by kernel_rfl) ?_
            refine G_seq ?_
            refine G_region ?_
            refine W_run 1 [(4, .bool false)] w5053 (by kernel_rfl) ?_
            refine W_nil ?_
            refine N_then ?_
            refine G_ret ?_
            refine N_block_ret ?_
            refine N_then_ret ?_
            refine N_then_ret ?_
            obtain rfl := Option.some.inj hm
            obtain rfl := hout4953 _ rfl
            have hm := hmo4960; simp only [Sum.elim_inr] at hm
            refine N_block_ret ?_
            refine N_meet_ret ?_
            refine N_then_ret ?_
            obtain rfl := Option.some.inj hm
            refine N_ret [.bool false] (RVs_cons (RV_tmp (by kernel_rfl)) RVs_nil) ?_
            exact ⟨rfl, M5054.pick [] (by kernel_rfl)⟩
          · refine G_cond_f (b := o5010) hc5057 (by kernel_rfl) ?_
            refine G_skip ?_
            refine N_block ?_
            refine N_then ?_
            refine G_region ?_
            refine W_run 2 [(0, .slice p4234 x4232.length c4235), (1, .slice p4239 x4237.length c4240), (10, .slice p4239 x4237.length c4240), (11, .int .i64 (x4237.length : Int)), (12, .int .i64 (w64 (s4951 + 1)))] w5053 (by kernel_rfl) ?_
            refine W_nil ?_
            obtain rfl := Option.some.inj hm
            exact N_loop fun a ha => ⟨_, rfl, M5054.pick [] (by kernel_rfl), ha.sub (by kernel_rfl)⟩
      · refine G_cond_f (b := (decide (s4951 < (x4237.length : Int)))) hc4962 (by kernel_rfl) ?_
        refine G_exit ?_
        refine N_then_exit ?_
        refine N_then_exit ?_
        refine N_block_eq ?_
        obtain rfl := Option.some.inj hm
        obtain rfl := hout4953 _ rfl
        exact N_meet fun a ha => ⟨_, rfl, M4956.pick [] (by kernel_rfl), ha.sub (by kernel_rfl)⟩
    · intro a5058 w5059 ⟨o4961, hout_, M5060, hS5061⟩
      refine N_use hS5061 ?_
      subst hout_
      have hm := hmo4960; simp only [Sum.elim_inl] at hm
      refine N_then ?_
      refine G_seq ?_
      refine G_region ?_
      refine W_run 1 [(4, .bool true)] w5059 (by kernel_rfl) ?_
      refine W_nil ?_
      refine N_then ?_
      refine G_ret ?_
      obtain rfl := Option.some.inj hm
      refine N_ret [.bool true] (RVs_cons (RV_tmp (by kernel_rfl)) RVs_nil) ?_
      exact ⟨rfl, M5060.pick [] (by kernel_rfl)⟩
theorem c_i_waiterOf (w : World) (x5099 : Slot) {r : Waiter} (hm : M.i_waiterOf x5099 = some r) :
    Calls Tryz.prog 119 #[.agg #[.int .i64 x5099.State, .int .i64 x5099.Irq, .int .i64 x5099.Priority]] w fun e w' => e = .returned (.agg #[.int .i64 r.Irq, .int .i64 r.Priority]) ∧ Mem [] w w' [] := by
  unfold M.i_waiterOf at hm
  refine C_enter Tryz.func119 rfl (by kernel_rfl) ?_
  have M0 := Mem.refl [] w
  refine G_seq ?_
  refine G_region ?_
  refine W_new (fun b => .pointer (some ⟨b, 0, none⟩)) (.cells ⟨[.int .i64 x5099.State, .int .i64 x5099.Irq, .int .i64 x5099.Priority]⟩ 117 (0, 0)) M0 rfl (by kernel_rfl) (by kernel_rfl) ?_
  intro b5101 w5102 M5103
  refine W_new (fun b => .pointer (some ⟨b, 0, none⟩)) (.cells ⟨[.int .i64 0, .int .i64 0]⟩ 142 (0, 0)) M5103 rfl (by kernel_rfl) (by kernel_rfl) ?_
  intro b5105 w5106 M5107
  refine W_nil ?_
  refine N_then ?_
  refine G_seq ?_
  refine G_region ?_
  refine W_run 1 [(1, .pointer (some ⟨b5101, 0, none⟩)), (2, .pointer (some ⟨b5105, 0, none⟩)), (3, .pointer (some ⟨b5101, 1, none⟩))] w5106 (by kernel_rfl) ?_
  refine W_val (.int .i64 x5099.Irq) w5106 (by kernel_rfl) (E_load (e := 117) (fr := (0, 0)) _ _ false 1 b5101 1 [.int .i64 x5099.State, .int .i64 x5099.Irq, .int .i64 x5099.Priority] (.int .i64 x5099.Irq) rfl (by kernel_rfl) (by kernel_rfl) (by kernel_rfl) (M5107.blk 0 (b := b5101) (o := .cells ⟨[.int .i64 x5099.State, .int .i64 x5099.Irq, .int .i64 x5099.Priority]⟩ 117 (0, 0)) (by kernel_rfl))) ?_
  refine W_run 1 [(2, .pointer (some ⟨b5105, 0, none⟩)), (4, .int .i64 x5099.Irq), (5, .pointer (some ⟨b5101, 2, none⟩))] w5106 (by kernel_rfl) ?_
  refine W_val (.int .i64 x5099.Priority) w5106 (by kernel_rfl) (E_load (e := 117) (fr := (0, 0)) _ _ false 1 b5101 2 [.int .i64 x5099.State, .int .i64 x5099.Irq, .int .i64 x5099.Priority] (.int .i64 x5099.Priority) rfl (by kernel_rfl) (by kernel_rfl) (by kernel_rfl) (M5107.blk 0 (b := b5101) (o := .cells ⟨[.int .i64 x5099.State, .int .i64 x5099.Irq, .int .i64 x5099.Priority]⟩ 117 (0, 0)) (by kernel_rfl))) ?_
  refine W_run 1 [(2, .pointer (some ⟨b5105, 0, none⟩)), (7, .agg #[.int .i64 x5099.Irq, .int .i64 x5099.Priority])] w5106 (by kernel_rfl) ?_
  refine W_store _ _ _ true 2 b5105 0 [.int .i64 0, .int .i64 0] 142 (.agg #[.int .i64 x5099.Irq, .int .i64 x5099.Priority]) 1 [.int .i64 x5099.Irq, .int .i64 x5099.Priority] M5107 (by kernel_rfl) rfl (by kernel_rfl) (by kernel_rfl) (by kernel_rfl) (by kernel_rfl) (by kernel_rfl) (by kernel_rfl) (by kernel_rfl) (by kernel_rfl) ?_
  intro w5108 M5109
  refine W_nil ?_
  refine N_then ?_
  refine G_ret ?_
  obtain rfl := Option.some.inj hm
  refine N_ret [.agg #[.int .i64 x5099.Irq, .int .i64 x5099.Priority]] (RVs_cons (RV_cell (g := true) (k := 2) (b := b5105) (off := 0) (cs := [.int .i64 x5099.Irq, .int .i64 x5099.Priority]) (e := 142) (fr := (0, 0)) (v := .agg #[.int .i64 x5099.Irq, .int .i64 x5099.Priority]) (M5109.blk 1 (b := b5105) (o := .cells ⟨[.int .i64 x5099.Irq, .int .i64 x5099.Priority]⟩ 142 (0, 0)) (by kernel_rfl)) (by kernel_rfl) (by kernel_rfl) (by kernel_rfl)) RVs_nil) ?_
  exact ⟨rfl, M5109.pick [] (by kernel_rfl)⟩
theorem c_i_pendingSlot (w : World) (x5081 : List Slot) (p5083 : Option Addr) (c5084 : Nat) (h5085 : rdS encSlot w x5081 p5083 c5084) (x5086 : Bool) {r : Int} (hm : M.i_pendingSlot x5081 x5086 = some r) :
    Calls Tryz.prog 197 #[.slice p5083 x5081.length c5084, .bool x5086] w fun e w' => e = .returned (.int .i64 r) ∧ Mem [] w w' [] := by
  unfold M.i_pendingSlot at hm
  refine C_enter Tryz.func197 rfl (by kernel_rfl) ?_
  have M0 := Mem.refl [] w
  refine G_seq ?_
  refine G_region ?_
  refine W_run 1 [(0, .slice p5083 x5081.length c5084), (1, .bool x5086)] w (by kernel_rfl) ?_
  refine W_nil ?_
  refine N_then ?_
  refine G_seq ?_
  refine G_region ?_
  refine W_run 1 [(0, .slice p5083 x5081.length c5084), (1, .bool x5086), (5, .int .i64 (-1))] w (by kernel_rfl) ?_
  refine W_nil ?_
  refine N_then ?_
  refine G_seq ?_
  refine G_seq ?_
  refine G_region ?_
  refine W_run 3 [(0, .slice p5083 x5081.length c5084), (1, .bool x5086), (5, .int .i64 (-1)), (8, .slice p5083 x5081.length c5084), (9, .int .i64 (x5081.length : Int)), (10, .int .i64 0)] w (by kernel_rfl) ?_
  refine W_nil ?_
  refine N_then ?_
  obtain ⟨out5237, hw5238, hmo5239⟩ := gx_bind hm
  refine G_meet (fun a w' => Mem [] w w' [] ∧ Sat Tryz.f197.ntmps [(5, .int .i64 out5237)] a) ?_ ?_
  · refine G_block ?_
    refine G_while (σ := Int × Int) (ρ := Int) (fun s5230 a w' => Mem [] w w' [] ∧ Sat Tryz.f197.ntmps [(0, .slice p5083 x5081.length c5084), (1, .bool x5086), (5, .int .i64 s5230.1), (8, .slice p5083 x5081.length c5084), (9, .int .i64 (x5081.length : Int)), (10, .int .i64 s5230.2)] a) hw5238 (fun a ha => ⟨M0.pick [] (by kernel_rfl), ha.sub (by kernel_rfl)⟩) ?_
    clear hm
    intro s5230 x5231 hm hout5232 a5233 w5234 ⟨M5235, hS5236⟩
    refine G_use hS5236 ?_
    refine G_seq ?_
    refine G_region ?_
    refine W_run 1 [(0, .slice p5083 x5081.length c5084), (1, .bool x5086), (5, .int .i64 s5230.1), (8, .slice p5083 x5081.length c5084), (9, .int .i64 (x5081.length : Int)), (10, .int .i64 s5230.2), (11, .bool (decide (s5230.2 < (x5081.length : Int))))] w5234 (by kernel_rfl) ?_
    refine W_nil ?_
    refine N_then ?_
    refine G_seq ?_
    rcases gx_bif hm with ⟨hc5241, hm⟩ | ⟨hc5241, hm⟩
    · refine G_cond_t (b := (decide (s5230.2 < (x5081.length : Int)))) hc5241 (by kernel_rfl) ?_
      refine G_skip ?_
      refine N_then ?_
      refine G_seq ?_
      refine G_block ?_
      refine G_seq ?_
      refine G_region ?_
      refine W_run 1 [(0, .slice p5083 x5081.length c5084), (1, .bool x5086), (5, .int .i64 s5230.1), (8, .slice p5083 x5081.length c5084), (9, .int .i64 (x5081.length : Int)), (10, .int .i64 s5230.2), (12, .int .i64 s5230.2)] w5234 (by kernel_rfl) ?_
      obtain ⟨y5242, hy5242, hm⟩ := gx_bind hm
      refine W_val (elemP p5083 (s5230.2.toNat * 3)) w5234 (by kernel_rfl) (E_index (E := encSlot) _ _ _ x5081.length c5084 .i64 s5230.2 3 (y := y5242) rfl (by kernel_rfl) (by kernel_rfl) (by kernel_rfl) (h5085.mem0 M5235) rfl hy5242) ?_
      refine W_val (.agg #[.int .i64 y5242.State, .int .i64 y5242.Irq, .int .i64 y5242.Priority]) w5234 (by kernel_rfl) (E_loadE (E := encSlot) _ _ true 3 s5230.2 0 (s5230.2.toNat * 3) y5242 (.agg #[.int .i64 y5242.State, .int .i64 y5242.Irq, .int .i64 y5242.Priority]) rfl (by kernel_rfl) (by kernel_rfl) (by kernel_rfl) (h5085.mem0 M5235) hy5242 rfl) ?_
      refine W_new (fun b => .pointer (some ⟨b, 0, none⟩)) (.cells ⟨[.int .i64 0, .int .i64 0, .int .i64 0]⟩ 117 (0, 0)) M5235 rfl (by kernel_rfl) (by kernel_rfl) ?_
      intro b5244 w5245 M5246
      refine W_run 1 [(0, .slice p5083 x5081.length c5084), (1, .bool x5086), (5, .int .i64 s5230.1), (6, .int .i64 s5230.2), (7, .pointer (some ⟨b5244, 0, none⟩)), (8, .slice p5083 x5081.length c5084), (9, .int .i64 (x5081.length : Int)), (10, .int .i64 s5230.2), (14, .agg #[.int .i64 y5242.State, .int .i64 y5242.Irq, .int .i64 y5242.Priority])] w5245 (by kernel_rfl) ?_
      refine W_store _ _ _ true 3 b5244 0 [.int .i64 0, .int .i64 0, .int .i64 0] 117 (.agg #[.int .i64 y5242.State, .int .i64 y5242.Irq, .int .i64 y5242.Priority]) 0 [.int .i64 y5242.State, .int .i64 y5242.Irq, .int .i64 y5242.Priority] M5246 (by kernel_rfl) rfl (by kernel_rfl) (by kernel_rfl) (by kernel_rfl) (by kernel_rfl) (by kernel_rfl) (by kernel_rfl) (by kernel_rfl) (by kernel_rfl) ?_
      intro w5247 M5248
      refine W_nil ?_
      refine N_then ?_
      refine G_seq ?_
      obtain ⟨o5270, ho5271, hm5272⟩ := gx_bind hm
      refine G_meet (fun a w' => Mem [] w w' [] ∧ Sat Tryz.f197.ntmps [(0, .slice p5083 x5081.length c5084), (1, .bool x5086), (5, .int .i64 s5230.1), (6, .int .i64 s5230.2), (8, .slice p5083 x5081.length c5084), (9, .int .i64 (x5081.length : Int)), (10, .int .i64 s5230.2), (34, .bool o5270)] a) ?_ ?_
      · have hm := ho5271
        refine G_quiet (by kernel_rfl) (by kernel_rfl) M5248 ?_
        refine Z_runs [.pointer (some ⟨b5244, 0, none⟩)] [(0, .slice p5083 x5081.length c5084), (1, .bool x5086), (5, .int .i64 s5230.1), (6, .int .i64 s5230.2), (7, .pointer (some ⟨b5244, 0, none⟩)), (8, .slice p5083 x5081.length c5084), (9, .int .i64 (x5081.length : Int)), (10, .int .i64 s5230.2), (15, .pointer (some ⟨b5244, 0, none⟩))] (fun w_ => by kernel_rfl) (by kernel_rfl) ?_
        refine Z_val (.int .i64 y5242.State) (by kernel_rfl) (fun w_ M_ => (E_load (e := 117) (fr := (0, 0)) _ _ false 1 b5244 0 [.int .i64 y5242.State, .int .i64 y5242.Irq, .int .i64 y5242.Priority] (.int .i64 y5242.State) rfl (by kernel_rfl) (by kernel_rfl) (by kernel_rfl) (M_.blk 0 (b := b5244) (o := .cells ⟨[.int .i64 y5242.State, .int .i64 y5242.Irq, .int .i64 y5242.Priority]⟩ 117 (0, 0)) (by kernel_rfl)))) ?_
        refine Z_runs [.bool (y5242.State == 1), .bool (y5242.State == 1)] [(0, .slice p5083 x5081.length c5084), (1, .bool x5086), (5, .int .i64 s5230.1), (6, .int .i64 s5230.2), (7, .pointer (some ⟨b5244, 0, none⟩)), (8, .slice p5083 x5081.length c5084), (9, .int .i64 (x5081.length : Int)), (10, .int .i64 s5230.2), (18, .bool (y5242.State == 1))] (fun w_ => by kernel_rfl) (by kernel_rfl) ?_
        rcases gx_bif hm with ⟨hc5273, hm⟩ | ⟨hc5273, hm⟩
        · refine Z_known 18 true (by kernel_rfl) hc5273 ?_
          refine Z_runs [.int .i64 s5230.1, .bool (decide (s5230.1 < 0)), .bool (decide (s5230.1 < 0))] [(0, .slice p5083 x5081.length c5084), (1, .bool x5086), (5, .int .i64 s5230.1), (6, .int .i64 s5230.2), (7, .pointer (some ⟨b5244, 0, none⟩)), (8, .slice p5083 x5081.length c5084), (9, .int .i64 (x5081.length : Int)), (10, .int .i64 s5230.2), (18, .bool true), (21, .bool (decide (s5230.1 < 0)))] (fun w_ => by kernel_rfl) (by kernel_rfl) ?_
          rcases gx_bif hm with ⟨hc5274, hm⟩ | ⟨hc5274, hm⟩
          · refine Z_known 21 true (by kernel_rfl) hc5274 ?_
            refine Z_runs [undef, undef, undef, undef, undef, undef, undef, undef, undef, undef, undef, .bool true, .bool true] [(0, .slice p5083 x5081.length c5084), (1, .bool x5086), (5, .int .i64 s5230.1), (6, .int .i64 s5230.2), (8, .slice p5083 x5081.length c5084), (9, .int .i64 (x5081.length : Int)), (10, .int .i64 s5230.2), (34, .bool true)] (fun w_ => by kernel_rfl) (by kernel_rfl) ?_
            refine Z_end fun w5275 M5276 => ?_
            obtain rfl := Option.some.inj hm
            exact N_meet fun a ha => ⟨M5276.pick [] (by kernel_rfl), ha.sub (by kernel_rfl)⟩
          · refine Z_known 21 false (by kernel_rfl) hc5274 ?_
            refine Z_val (.agg #[.int .i64 y5242.State, .int .i64 y5242.Irq, .int .i64 y5242.Priority]) (by kernel_rfl) (fun w_ M_ => (E_load (e := 117) (fr := (0, 0)) _ _ true 3 b5244 0 [.int .i64 y5242.State, .int .i64 y5242.Irq, .int .i64 y5242.Priority] (.agg #[.int .i64 y5242.State, .int .i64 y5242.Irq, .int .i64 y5242.Priority]) rfl (by kernel_rfl) (by kernel_rfl) (by kernel_rfl) (M_.blk 0 (b := b5244) (o := .cells ⟨[.int .i64 y5242.State, .int .i64 y5242.Irq, .int .i64 y5242.Priority]⟩ 117 (0, 0)) (by kernel_rfl)))) ?_
            obtain ⟨r5277, hr5277, hm⟩ := gx_bind hm
            refine Z_call 119 #[.agg #[.int .i64 y5242.State, .int .i64 y5242.Irq, .int .i64 y5242.Priority]] (.agg #[.int .i64 r5277.Irq, .int .i64 r5277.Priority]) (by kernel_rfl) (fun w_ => by kernel_rfl) (fun w_ M_ => (c_i_waiterOf w_ y5242 hr5277).mono fun e w2_ h_ => ⟨h_.1, M_.call0 h_.2⟩) ?_
            refine Z_runs [.slice p5083 x5081.length c5084, .int .i64 s5230.1] [(0, .slice p5083 x5081.length c5084), (1, .bool x5086), (5, .int .i64 s5230.1), (6, .int .i64 s5230.2), (8, .slice p5083 x5081.length c5084), (9, .int .i64 (x5081.length : Int)), (10, .int .i64 s5230.2), (18, .bool true), (21, .bool false), (23, .agg #[.int .i64 r5277.Irq, .int .i64 r5277.Priority]), (24, .slice p5083 x5081.length c5084), (25, .int .i64 s5230.1)] (fun w_ => by kernel_rfl) (by kernel_rfl) ?_
            obtain ⟨y5281, hy5281, hm⟩ := gx_bind hm
            refine Z_val (elemP p5083 (s5230.1.toNat * 3)) (by kernel_rfl) (fun w_ M_ => (E_index (E := encSlot) _ _ _ x5081.length c5084 .i64 s5230.1 3 (y := y5281) rfl (by kernel_rfl) (by kernel_rfl) (by kernel_rfl) (h5085.mem0 M_) rfl hy5281)) ?_
            refine Z_val (.agg #[.int .i64 y5281.State, .int .i64 y5281.Irq, .int .i64 y5281.Priority]) (by kernel_rfl) (fun w_ M_ => (E_loadE (E := encSlot) _ _ true 3 s5230.1 0 (s5230.1.toNat * 3) y5281 (.agg #[.int .i64 y5281.State, .int .i64 y5281.Irq, .int .i64 y5281.Priority]) rfl (by kernel_rfl) (by kernel_rfl) (by kernel_rfl) (h5085.mem0 M_) hy5281 rfl)) ?_
            obtain ⟨r5282, hr5282, hm⟩ := gx_bind hm
            refine Z_call 119 #[.agg #[.int .i64 y5281.State, .int .i64 y5281.Irq, .int .i64 y5281.Priority]] (.agg #[.int .i64 r5282.Irq, .int .i64 r5282.Priority]) (by kernel_rfl) (fun w_ => by kernel_rfl) (fun w_ M_ => (c_i_waiterOf w_ y5281 hr5282).mono fun e w2_ h_ => ⟨h_.1, M_.call0 h_.2⟩) ?_
            obtain ⟨r5286, hr5286, hm⟩ := gx_bind hm
            refine Z_call 129 #[.agg #[.int .i64 r5277.Irq, .int .i64 r5277.Priority], .agg #[.int .i64 r5282.Irq, .int .i64 r5282.Priority]] (.int .i64 r5286) (by kernel_rfl) (fun w_ => by kernel_rfl) (fun w_ M_ => (c_i_compareUrgency w_ r5277 r5282 hr5286).mono fun e w2_ h_ => ⟨h_.1, M_.call0 h_.2⟩) ?_
            refine Z_runs [.bool (decide (r5286 < 0)), .bool x5086, .bool ((decide (r5286 < 0)) == x5086), .bool ((decide (r5286 < 0)) == x5086), .bool ((decide (r5286 < 0)) == x5086)] [(0, .slice p5083 x5081.length c5084), (1, .bool x5086), (5, .int .i64 s5230.1), (6, .int .i64 s5230.2), (8, .slice p5083 x5081.length c5084), (9, .int .i64 (x5081.length : Int)), (10, .int .i64 s5230.2), (34, .bool ((decide (r5286 < 0)) == x5086))] (fun w_ => by kernel_rfl) (by kernel_rfl) ?_
            refine Z_end fun w5290 M5291 => ?_
            obtain rfl := Option.some.inj hm
            exact N_meet fun a ha => ⟨M5291.pick [] (by kernel_rfl), ha.sub (by kernel_rfl)⟩
        · refine Z_known 18 false (by kernel_rfl) hc5273 ?_
          refine Z_runs [undef, undef, undef, undef, undef, undef, undef, undef, undef, undef, undef, undef, undef, undef, undef, .bool false] [(0, .slice p5083 x5081.length c5084), (1, .bool x5086), (5, .int .i64 s5230.1), (6, .int .i64 s5230.2), (8, .slice p5083 x5081.length c5084), (9, .int .i64 (x5081.length : Int)), (10, .int .i64 s5230.2), (34, .bool false)] (fun w_ => by kernel_rfl) (by kernel_rfl) ?_
          refine Z_end fun w5292 M5293 => ?_
          obtain rfl := Option.some.inj hm
          exact N_meet fun a ha => ⟨M5293.pick [] (by kernel_rfl), ha.sub (by kernel_rfl)⟩
      · intro a5296 w5294 ⟨M5295, hS5297⟩
        refine N_use hS5297 ?_
        have hm := hm5272
        refine N_then ?_
        obtain ⟨o5299, ho5300, hm5301⟩ := gx_bind hm
        refine G_meet (fun a w' => Mem [] w w' [] ∧ Sat Tryz.f197.ntmps [(0, .slice p5083 x5081.length c5084), (1, .bool x5086), (5, .int .i64 o5299), (8, .slice p5083 x5081.length c5084), (9, .int .i64 (x5081.length : Int)), (10, .int .i64 s5230.2)] a) ?_ ?_
        · have hm := ho5300
          rcases gx_bif hm with ⟨hc5302, hm⟩ | ⟨hc5302, hm⟩
          · refine G_cond_t (b := o5270) hc5302 (by kernel_rfl) ?_
            refine G_region ?_
            refine W_run 2 [(0, .slice p5083 x5081.length c5084), (1, .bool x5086), (5, .int .i64 s5230.2), (8, .slice p5083 x5081.length c5084), (9, .int .i64 (x5081.length : Int)), (10, .int .i64 s5230.2)] w5294 (by kernel_rfl) ?_
            refine W_nil ?_
            obtain rfl := Option.some.inj hm
            exact N_meet fun a ha => ⟨M5295.pick [] (by kernel_rfl), ha.sub (by kernel_rfl)⟩
          · refine G_cond_f (b := o5270) hc5302 (by kernel_rfl) ?_
            refine G_skip ?_
            obtain rfl := Option.some.inj hm
            exact N_meet fun a ha => ⟨M5295.pick [] (by kernel_rfl), ha.sub (by kernel_rfl)⟩
        · intro a5305 w5303 ⟨M5304, hS5306⟩
          refine N_use hS5306 ?_
          have hm := hm5301
          refine N_block ?_
          refine N_then ?_
          refine G_region ?_
          refine W_run 2 [(0, .slice p5083 x5081.length c5084), (1, .bool x5086), (5, .int .i64 o5299), (8, .slice p5083 x5081.length c5084), (9, .int .i64 (x5081.length : Int)), (10, .int .i64 (w64 (s5230.2 + 1)))] w5303 (by kernel_rfl) ?_
          refine W_nil ?_
          obtain rfl := Option.some.inj hm
          exact N_loop fun a ha => ⟨_, rfl, M5304.pick [] (by kernel_rfl), ha.sub (by kernel_rfl)⟩
    · refine G_cond_f (b := (decide (s5230.2 < (x5081.length : Int)))) hc5241 (by kernel_rfl) ?_
      refine G_exit ?_
      refine N_then_exit ?_
      refine N_then_exit ?_
      refine N_block_eq ?_
      obtain rfl := Option.some.inj hm
      obtain rfl := hout5232 _ rfl
      exact N_meet fun a ha => ⟨M5235.pick [] (by kernel_rfl), ha.sub (by kernel_rfl)⟩
  · intro a5307 w5308 ⟨M5309, hS5310⟩
    refine N_use hS5310 ?_
    have hm := hmo5239
    refine N_then ?_
    refine G_seq ?_
    refine G_region ?_
    refine W_run 2 [(4, .int .i64 out5237)] w5308 (by kernel_rfl) ?_
    refine W_nil ?_
    refine N_then ?_
    refine G_ret ?_
    obtain rfl := Option.some.inj hm
    refine N_ret [.int .i64 out5237] (RVs_cons (RV_tmp (by kernel_rfl)) RVs_nil) ?_
    exact ⟨rfl, M5309.pick [] (by kernel_rfl)⟩
theorem c_i_firstEmpty_1 (w : World) (x5327 : Slot) {r : Bool} (hm : M.i_firstEmpty_1 x5327 = some r) :
    Calls Tryz.prog 240 #[.agg #[.int .i64 x5327.State, .int .i64 x5327.Irq, .int .i64 x5327.Priority]] w fun e w' => e = .returned (.bool r) ∧ Mem [] w w' [] := by
  unfold M.i_firstEmpty_1 at hm
  refine C_enter Tryz.func240 rfl (by kernel_rfl) ?_
  have M0 := Mem.refl [] w
  refine G_seq ?_
  refine G_region ?_
  refine W_new (fun b => .pointer (some ⟨b, 0, none⟩)) (.cells ⟨[.int .i64 x5327.State, .int .i64 x5327.Irq, .int .i64 x5327.Priority]⟩ 117 (0, 0)) M0 rfl (by kernel_rfl) (by kernel_rfl) ?_
  intro b5329 w5330 M5331
  refine W_run 1 [(1, .pointer (some ⟨b5329, 0, none⟩))] w5330 (by kernel_rfl) ?_
  refine W_nil ?_
  refine N_then ?_
  refine G_seq ?_
  refine G_region ?_
  refine W_run 1 [(3, .pointer (some ⟨b5329, 0, none⟩))] w5330 (by kernel_rfl) ?_
  refine W_val (.int .i64 x5327.State) w5330 (by kernel_rfl) (E_load (e := 117) (fr := (0, 0)) _ _ false 1 b5329 0 [.int .i64 x5327.State, .int .i64 x5327.Irq, .int .i64 x5327.Priority] (.int .i64 x5327.State) rfl (by kernel_rfl) (by kernel_rfl) (by kernel_rfl) (M5331.blk 0 (b := b5329) (o := .cells ⟨[.int .i64 x5327.State, .int .i64 x5327.Irq, .int .i64 x5327.Priority]⟩ 117 (0, 0)) (by kernel_rfl))) ?_
  refine W_run 2 [(2, .bool (x5327.State == 0))] w5330 (by kernel_rfl) ?_
  refine W_nil ?_
  refine N_then ?_
  refine G_ret ?_
  obtain rfl := Option.some.inj hm
  refine N_ret [.bool (x5327.State == 0)] (RVs_cons (RV_tmp (by kernel_rfl)) RVs_nil) ?_
  exact ⟨rfl, M5331.pick [] (by kernel_rfl)⟩
theorem c_slices_IndexFunc_210__i_firstEmpty_1 (w : World) (x5320 : List Slot) (p5322 : Option Addr) (c5323 : Nat) (h5324 : rdS encSlot w x5320 p5322 c5323) {r : Int} (hm : M.slices_IndexFunc_210__i_firstEmpty_1 x5320 = some r) :
    Calls Tryz.prog 210 #[.slice p5322 x5320.length c5323, .func (.func 240) #[] #[]] w fun e w' => e = .returned (.int .i64 r) ∧ Mem [] w w' [] := by
  unfold M.slices_IndexFunc_210__i_firstEmpty_1 at hm
  refine C_enter Tryz.func210 rfl (by kernel_rfl) ?_
  have M0 := Mem.refl [] w
  refine G_seq ?_
  refine G_region ?_
  refine W_run 1 [(0, .slice p5322 x5320.length c5323), (1, .func (.func 240) #[] #[])] w (by kernel_rfl) ?_
  refine W_nil ?_
  refine N_then ?_
  refine G_seq ?_
  refine G_seq ?_
  refine G_region ?_
  refine W_run 3 [(0, .slice p5322 x5320.length c5323), (1, .func (.func 240) #[] #[]), (7, .int .i64 (x5320.length : Int)), (8, .int .i64 0)] w (by kernel_rfl) ?_
  refine W_nil ?_
  refine N_then ?_
  obtain ⟨out5351, hw5352, hmo5353⟩ := gx_bind hm
  refine G_meet (fun a w' => ∃ (o5354 : Unit), out5351 = .inl o5354 ∧ Mem [] w w' [] ∧ Sat Tryz.f210.ntmps [] a) ?_ ?_
  · refine G_block ?_
    refine G_while (σ := Int) (ρ := (Unit) ⊕ (Int)) (fun s5344 a w' => Mem [] w w' [] ∧ Sat Tryz.f210.ntmps [(0, .slice p5322 x5320.length c5323), (1, .func (.func 240) #[] #[]), (7, .int .i64 (x5320.length : Int)), (8, .int .i64 s5344)] a) hw5352 (fun a ha => ⟨M0.pick [] (by kernel_rfl), ha.sub (by kernel_rfl)⟩) ?_
    clear hm
    intro s5344 x5345 hm hout5346 a5347 w5348 ⟨M5349, hS5350⟩
    refine G_use hS5350 ?_
    refine G_seq ?_
    refine G_region ?_
    refine W_run 1 [(0, .slice p5322 x5320.length c5323), (1, .func (.func 240) #[] #[]), (7, .int .i64 (x5320.length : Int)), (8, .int .i64 s5344), (9, .bool (decide (s5344 < (x5320.length : Int))))] w5348 (by kernel_rfl) ?_
    refine W_nil ?_
    refine N_then ?_
    refine G_seq ?_
    rcases gx_bif hm with ⟨hc5355, hm⟩ | ⟨hc5355, hm⟩
    · refine G_cond_t (b := (decide (s5344 < (x5320.length : Int)))) hc5355 (by kernel_rfl) ?_
      refine G_skip ?_
      refine N_then ?_
      refine G_seq ?_
      refine G_block ?_
      refine G_seq ?_
      refine G_region ?_
      refine W_run 2 [(0, .slice p5322 x5320.length c5323), (1, .func (.func 240) #[] #[]), (5, .int .i64 s5344), (7, .int .i64 (x5320.length : Int)), (8, .int .i64 s5344)] w5348 (by kernel_rfl) ?_
      refine W_nil ?_
      refine N_then ?_
      refine G_seq ?_
      refine G_region ?_
      refine W_run 3 [(0, .slice p5322 x5320.length c5323), (1, .func (.func 240) #[] #[]), (5, .int .i64 s5344), (7, .int .i64 (x5320.length : Int)), (8, .int .i64 s5344), (11, .func (.func 240) #[] #[]), (12, .slice p5322 x5320.length c5323), (13, .int .i64 s5344)] w5348 (by kernel_rfl) ?_
      obtain ⟨y5356, hy5356, hm⟩ := gx_bind hm
      refine W_val (elemP p5322 (s5344.toNat * 3)) w5348 (by kernel_rfl) (E_index (E := encSlot) _ _ _ x5320.length c5323 .i64 s5344 3 (y := y5356) rfl (by kernel_rfl) (by kernel_rfl) (by kernel_rfl) (h5324.mem0 M5349) rfl hy5356) ?_
      refine W_val (.agg #[.int .i64 y5356.State, .int .i64 y5356.Irq, .int .i64 y5356.Priority]) w5348 (by kernel_rfl) (E_loadE (E := encSlot) _ _ true 3 s5344 0 (s5344.toNat * 3) y5356 (.agg #[.int .i64 y5356.State, .int .i64 y5356.Irq, .int .i64 y5356.Priority]) rfl (by kernel_rfl) (by kernel_rfl) (by kernel_rfl) (h5324.mem0 M5349) hy5356 rfl) ?_
      obtain ⟨r5357, hr5357, hm⟩ := gx_bind hm
      refine W_call 240 #[.agg #[.int .i64 y5356.State, .int .i64 y5356.Irq, .int .i64 y5356.Priority]] (by kernel_rfl) (by kernel_rfl) ?_
      refine (c_i_firstEmpty_1 w5348 y5356 hr5357).mono ?_
      rintro e_ w5358 ⟨rfl, K5359⟩
      have M5360 := M5349.call0 K5359
      refine ⟨_, rfl, ?_⟩
      refine W_nil ?_
      refine N_then ?_
      rcases gx_bif hm with ⟨hc5361, hm⟩ | ⟨hc5361, hm⟩
      · refine G_cond_t (b := r5357) hc5361 (by kernel_rfl) ?_
        refine G_seq ?_
        refine G_region ?_
        refine W_run 2 [(4, .int .i64 s5344)] w5358 (by kernel_rfl) ?_
        refine W_nil ?_
        refine N_then ?_
        refine G_ret ?_
        refine N_block_ret ?_
        refine N_then_ret ?_
        refine N_then_ret ?_
        obtain rfl := Option.some.inj hm
        obtain rfl := hout5346 _ rfl
        have hm := hmo5353; simp only [Sum.elim_inr] at hm
        refine N_block_ret ?_
        refine N_meet_ret ?_
        refine N_then_ret ?_
        obtain rfl := Option.some.inj hm
        refine N_ret [.int .i64 s5344] (RVs_cons (RV_tmp (by kernel_rfl)) RVs_nil) ?_
        exact ⟨rfl, M5360.pick [] (by kernel_rfl)⟩
      · refine G_cond_f (b := r5357) hc5361 (by kernel_rfl) ?_
        refine G_skip ?_
        refine N_block ?_
        refine N_then ?_
        refine G_region ?_
        refine W_run 2 [(0, .slice p5322 x5320.length c5323), (1, .func (.func 240) #[] #[]), (7, .int .i64 (x5320.length : Int)), (8, .int .i64 (w64 (s5344 + 1)))] w5358 (by kernel_rfl) ?_
        refine W_nil ?_
        obtain rfl := Option.some.inj hm
        exact N_loop fun a ha => ⟨_, rfl, M5360.pick [] (by kernel_rfl), ha.sub (by kernel_rfl)⟩
    · refine G_cond_f (b := (decide (s5344 < (x5320.length : Int)))) hc5355 (by kernel_rfl) ?_
      refine G_exit ?_
      refine N_then_exit ?_
      refine N_then_exit ?_
      refine N_block_eq ?_
      obtain rfl := Option.some.inj hm
      obtain rfl := hout5346 _ rfl
      exact N_meet fun a ha => ⟨_, rfl, M5349.pick [] (by kernel_rfl), ha.sub (by kernel_rfl)⟩
  · intro a5362 w5363 ⟨o5354, hout_, M5364, hS5365⟩
    refine N_use hS5365 ?_
    subst hout_
    have hm := hmo5353; simp only [Sum.elim_inl] at hm
    refine N_then ?_
    refine G_seq ?_
    refine G_region ?_
    refine W_run 1 [(4, .int .i64 (-1))] w5363 (by kernel_rfl) ?_
    refine W_nil ?_
    refine N_then ?_
    refine G_ret ?_
    obtain rfl := Option.some.inj hm
    refine N_ret [.int .i64 (-1)] (RVs_cons (RV_tmp (by kernel_rfl)) RVs_nil) ?_
    exact ⟨rfl, M5364.pick [] (by kernel_rfl)⟩
theorem c_i_firstEmpty (w : World) (x5315 : List Slot) (p5317 : Option Addr) (c5318 : Nat) (h5319 : rdS encSlot w x5315 p5317 c5318) {r : Int} (hm : M.i_firstEmpty x5315 = some r) :
    Calls Tryz.prog 198 #[.slice p5317 x5315.length c5318] w fun e w' => e = .returned (.int .i64 r) ∧ Mem [] w w' [] := by
  unfold M.i_firstEmpty at hm
  refine C_enter Tryz.func198 rfl (by kernel_rfl) ?_
  have M0 := Mem.refl [] w
  refine G_seq ?_
  refine G_region ?_
  refine W_run 1 [(0, .slice p5317 x5315.length c5318)] w (by kernel_rfl) ?_
  refine W_nil ?_
  refine N_then ?_
  refine G_seq ?_
  refine G_region ?_
  refine W_run 1 [(3, .slice p5317 x5315.length c5318)] w (by kernel_rfl) ?_
  obtain ⟨r5366, hr5366, hm⟩ := gx_bind hm
  refine W_call 210 #[.slice p5317 x5315.length c5318, .func (.func 240) #[] #[]] (by kernel_rfl) (by kernel_rfl) ?_
  refine (c_slices_IndexFunc_210__i_firstEmpty_1 w x5315 p5317 c5318 (h5319.mem0 M0) hr5366).mono ?_
  rintro e_ w5367 ⟨rfl, K5368⟩
  have M5369 := M0.call0 K5368
  refine ⟨_, rfl, ?_⟩
  refine W_run 1 [(2, .int .i64 r5366)] w5367 (by kernel_rfl) ?_
  refine W_nil ?_
  refine N_then ?_
  refine G_ret ?_
  obtain rfl := Option.some.inj hm
  refine N_ret [.int .i64 r5366] (RVs_cons (RV_tmp (by kernel_rfl)) RVs_nil) ?_
  exact ⟨rfl, M5369.pick [] (by kernel_rfl)⟩
theorem c_i_isSettled (w : World) (x5067 : Queue) (p5069 : Option Addr) (c5070 : Nat) (h5071 : rdS encSlot w x5067.Slots p5069 c5070) (p5073 : Option Addr) (c5074 : Nat) (h5075 : rdS encWaiter w x5067.Waiting p5073 c5074) {r : Bool} (hm : M.i_isSettled x5067 = some r) :
    Calls Tryz.prog 161 #[.agg #[.slice p5069 x5067.Slots.length c5070, .slice p5073 x5067.Waiting.length c5074]] w fun e w' => e = .returned (.bool r) ∧ Mem [] w w' [] := by
  unfold M.i_isSettled at hm
  refine C_enter Tryz.func161 rfl (by kernel_rfl) ?_
  have M0 := Mem.refl [] w
  refine G_seq ?_
  refine G_region ?_
  refine W_new (fun b => .pointer (some ⟨b, 0, none⟩)) (.cells ⟨[.slice p5069 x5067.Slots.length c5070, .slice p5073 x5067.Waiting.length c5074]⟩ 85 (0, 0)) M0 rfl (by kernel_rfl) (by kernel_rfl) ?_
  intro b5077 w5078 M5079
  refine W_run 1 [(1, .pointer (some ⟨b5077, 0, none⟩))] w5078 (by kernel_rfl) ?_
  refine W_nil ?_
  refine N_then ?_
  refine G_seq ?_
  refine G_seq ?_
  refine G_region ?_
  refine W_run 1 [(1, .pointer (some ⟨b5077, 0, none⟩)), (4, .pointer (some ⟨b5077, 1, none⟩))] w5078 (by kernel_rfl) ?_
  refine W_val (.slice p5073 x5067.Waiting.length c5074) w5078 (by kernel_rfl) (E_load (e := 85) (fr := (0, 0)) _ _ false 1 b5077 1 [.slice p5069 x5067.Slots.length c5070, .slice p5073 x5067.Waiting.length c5074] (.slice p5073 x5067.Waiting.length c5074) rfl (by kernel_rfl) (by kernel_rfl) (by kernel_rfl) (M5079.blk 0 (b := b5077) (o := .cells ⟨[.slice p5069 x5067.Slots.length c5070, .slice p5073 x5067.Waiting.length c5074]⟩ 85 (0, 0)) (by kernel_rfl))) ?_
  refine W_run 2 [(1, .pointer (some ⟨b5077, 0, none⟩)), (7, .bool ((x5067.Waiting.length : Int) == 0))] w5078 (by kernel_rfl) ?_
  refine W_nil ?_
  refine N_then ?_
  rcases gx_bif hm with ⟨hc5080, hm⟩ | ⟨hc5080, hm⟩
  · refine G_cond_t (b := ((x5067.Waiting.length : Int) == 0)) hc5080 (by kernel_rfl) ?_
    refine G_seq ?_
    refine G_region ?_
    refine W_run 1 [(2, .bool true)] w5078 (by kernel_rfl) ?_
    refine W_nil ?_
    refine N_then ?_
    refine G_ret ?_
    refine N_then_ret ?_
    obtain rfl := Option.some.inj hm
    refine N_ret [.bool true] (RVs_cons (RV_tmp (by kernel_rfl)) RVs_nil) ?_
    exact ⟨rfl, M5079.pick [] (by kernel_rfl)⟩
  · refine G_cond_f (b := ((x5067.Waiting.length : Int) == 0)) hc5080 (by kernel_rfl) ?_
    refine G_skip ?_
    refine N_then ?_
    refine G_seq ?_
    refine G_region ?_
    refine W_run 1 [(1, .pointer (some ⟨b5077, 0, none⟩)), (8, .pointer (some ⟨b5077, 0, none⟩))] w5078 (by kernel_rfl) ?_
    refine W_val (.slice p5069 x5067.Slots.length c5070) w5078 (by kernel_rfl) (E_load (e := 85) (fr := (0, 0)) _ _ false 1 b5077 0 [.slice p5069 x5067.Slots.length c5070, .slice p5073 x5067.Waiting.length c5074] (.slice p5069 x5067.Slots.length c5070) rfl (by kernel_rfl) (by kernel_rfl) (by kernel_rfl) (M5079.blk 0 (b := b5077) (o := .cells ⟨[.slice p5069 x5067.Slots.length c5070, .slice p5073 x5067.Waiting.length c5074]⟩ 85 (0, 0)) (by kernel_rfl))) ?_
    obtain ⟨r5311, hr5311, hm⟩ := gx_bind hm
    refine W_call 197 #[.slice p5069 x5067.Slots.length c5070, .bool false] (by kernel_rfl) (by kernel_rfl) ?_
    refine (c_i_pendingSlot w5078 x5067.Slots p5069 c5070 (h5071.mem0 M5079) false hr5311).mono ?_
    rintro e_ w5312 ⟨rfl, K5313⟩
    have M5314 := M5079.call0 K5313
    refine ⟨_, rfl, ?_⟩
    refine W_run 1 [(1, .pointer (some ⟨b5077, 0, none⟩)), (3, .int .i64 r5311)] w5312 (by kernel_rfl) ?_
    refine W_nil ?_
    refine N_then ?_
    refine G_seq ?_
    obtain ⟨o5392, ho5393, hm5394⟩ := gx_bind hm
    refine G_meet (fun a w' => Mem [] w w' [] ∧ Sat Tryz.f161.ntmps [(2, .bool o5392)] a) ?_ ?_
    · have hm := ho5393
      refine G_quiet (by kernel_rfl) (by kernel_rfl) M5314 ?_
      refine Z_runs [.pointer (some ⟨b5077, 0, none⟩)] [(1, .pointer (some ⟨b5077, 0, none⟩)), (3, .int .i64 r5311), (11, .pointer (some ⟨b5077, 0, none⟩))] (fun w_ => by kernel_rfl) (by kernel_rfl) ?_
      refine Z_val (.slice p5069 x5067.Slots.length c5070) (by kernel_rfl) (fun w_ M_ => (E_load (e := 85) (fr := (0, 0)) _ _ false 1 b5077 0 [.slice p5069 x5067.Slots.length c5070, .slice p5073 x5067.Waiting.length c5074] (.slice p5069 x5067.Slots.length c5070) rfl (by kernel_rfl) (by kernel_rfl) (by kernel_rfl) (M_.blk 0 (b := b5077) (o := .cells ⟨[.slice p5069 x5067.Slots.length c5070, .slice p5073 x5067.Waiting.length c5074]⟩ 85 (0, 0)) (by kernel_rfl)))) ?_
      obtain ⟨r5395, hr5395, hm⟩ := gx_bind hm
      refine Z_call 198 #[.slice p5069 x5067.Slots.length c5070] (.int .i64 r5395) (by kernel_rfl) (fun w_ => by kernel_rfl) (fun w_ M_ => (c_i_firstEmpty w_ x5067.Slots p5069 c5070 (h5071.mem0 M_) hr5395).mono fun e w2_ h_ => ⟨h_.1, M_.call0 h_.2⟩) ?_
      refine Z_runs [.bool (decide (r5395 < 0)), .bool (decide (r5395 < 0))] [(1, .pointer (some ⟨b5077, 0, none⟩)), (3, .int .i64 r5311), (15, .bool (decide (r5395 < 0)))] (fun w_ => by kernel_rfl) (by kernel_rfl) ?_
      rcases gx_bif hm with ⟨hc5399, hm⟩ | ⟨hc5399, hm⟩
      · refine Z_known 15 true (by kernel_rfl) hc5399 ?_
        refine Z_runs [.int .i64 r5311, .bool (decide (r5311 < 0)), .bool (decide (r5311 < 0))] [(1, .pointer (some ⟨b5077, 0, none⟩)), (3, .int .i64 r5311), (15, .bool true), (18, .bool (decide (r5311 < 0)))] (fun w_ => by kernel_rfl) (by kernel_rfl) ?_
        rcases gx_bif hm with ⟨hc5400, hm⟩ | ⟨hc5400, hm⟩
        · refine Z_known 18 true (by kernel_rfl) hc5400 ?_
          refine Z_runs [undef, undef, undef, undef, undef, undef, undef, undef, undef, undef, undef, undef, .bool true, .bool true, .bool true] [(2, .bool true)] (fun w_ => by kernel_rfl) (by kernel_rfl) ?_
          refine Z_end fun w5401 M5402 => ?_
          obtain rfl := Option.some.inj hm
          exact N_meet fun a ha => ⟨M5402.pick [] (by kernel_rfl), ha.sub (by kernel_rfl)⟩
        · refine Z_known 18 false (by kernel_rfl) hc5400 ?_
          refine Z_runs [.pointer (some ⟨b5077, 1, none⟩)] [(1, .pointer (some ⟨b5077, 0, none⟩)), (3, .int .i64 r5311), (15, .bool true), (18, .bool false), (19, .pointer (some ⟨b5077, 1, none⟩))] (fun w_ => by kernel_rfl) (by kernel_rfl) ?_
          refine Z_val (.slice p5073 x5067.Waiting.length c5074) (by kernel_rfl) (fun w_ M_ => (E_load (e := 85) (fr := (0, 0)) _ _ false 1 b5077 1 [.slice p5069 x5067.Slots.length c5070, .slice p5073 x5067.Waiting.length c5074] (.slice p5073 x5067.Waiting.length c5074) rfl (by kernel_rfl) (by kernel_rfl) (by kernel_rfl) (M_.blk 0 (b := b5077) (o := .cells ⟨[.slice p5069 x5067.Slots.length c5070, .slice p5073 x5067.Waiting.length c5074]⟩ 85 (0, 0)) (by kernel_rfl)))) ?_
          obtain ⟨y5403, hy5403, hm⟩ := gx_bind hm
          refine Z_val (elemP p5073 ((0 : Int).toNat * 2)) (by kernel_rfl) (fun w_ M_ => (E_index (E := encWaiter) _ _ _ x5067.Waiting.length c5074 .i64 0 2 (y := y5403) rfl (by kernel_rfl) (by kernel_rfl) (by kernel_rfl) (h5075.mem0 M_) rfl hy5403)) ?_
          refine Z_val (.agg #[.int .i64 y5403.Irq, .int .i64 y5403.Priority]) (by kernel_rfl) (fun w_ M_ => (E_loadE (E := encWaiter) _ _ true 2 0 0 ((0 : Int).toNat * 2) y5403 (.agg #[.int .i64 y5403.Irq, .int .i64 y5403.Priority]) rfl (by kernel_rfl) (by kernel_rfl) (by kernel_rfl) (h5075.mem0 M_) hy5403 rfl)) ?_
          refine Z_runs [.pointer (some ⟨b5077, 0, none⟩)] [(3, .int .i64 r5311), (15, .bool true), (18, .bool false), (22, .agg #[.int .i64 y5403.Irq, .int .i64 y5403.Priority]), (23, .pointer (some ⟨b5077, 0, none⟩))] (fun w_ => by kernel_rfl) (by kernel_rfl) ?_
          refine Z_val (.slice p5069 x5067.Slots.length c5070) (by kernel_rfl) (fun w_ M_ => (E_load (e := 85) (fr := (0, 0)) _ _ false 1 b5077 0 [.slice p5069 x5067.Slots.length c5070, .slice p5073 x5067.Waiting.length c5074] (.slice p5069 x5067.Slots.length c5070) rfl (by kernel_rfl) (by kernel_rfl) (by kernel_rfl) (M_.blk 0 (b := b5077) (o := .cells ⟨[.slice p5069 x5067.Slots.length c5070, .slice p5073 x5067.Waiting.length c5074]⟩ 85 (0, 0)) (by kernel_rfl)))) ?_
          refine Z_runs [.int .i64 r5311] [(15, .bool true), (18, .bool false), (22, .agg #[.int .i64 y5403.Irq, .int .i64 y5403.Priority]), (24, .slice p5069 x5067.Slots.length c5070), (25, .int .i64 r5311)] (fun w_ => by kernel_rfl) (by kernel_rfl) ?_
          obtain ⟨y5404, hy5404, hm⟩ := gx_bind hm
          refine Z_val (elemP p5069 (r5311.toNat * 3)) (by kernel_rfl) (fun w_ M_ => (E_index (E := encSlot) _ _ _ x5067.Slots.length c5070 .i64 r5311 3 (y := y5404) rfl (by kernel_rfl) (by kernel_rfl) (by kernel_rfl) (h5071.mem0 M_) rfl hy5404)) ?_
          refine Z_val (.agg #[.int .i64 y5404.State, .int .i64 y5404.Irq, .int .i64 y5404.Priority]) (by kernel_rfl) (fun w_ M_ => (E_loadE (E := encSlot) _ _ true 3 r5311 0 (r5311.toNat * 3) y5404 (.agg #[.int .i64 y5404.State, .int .i64 y5404.Irq, .int .i64 y5404.Priority]) rfl (by kernel_rfl) (by kernel_rfl) (by kernel_rfl) (h5071.mem0 M_) hy5404 rfl)) ?_
          obtain ⟨r5405, hr5405, hm⟩ := gx_bind hm
          refine Z_call 119 #[.agg #[.int .i64 y5404.State, .int .i64 y5404.Irq, .int .i64 y5404.Priority]] (.agg #[.int .i64 r5405.Irq, .int .i64 r5405.Priority]) (by kernel_rfl) (fun w_ => by kernel_rfl) (fun w_ M_ => (c_i_waiterOf w_ y5404 hr5405).mono fun e w2_ h_ => ⟨h_.1, M_.call0 h_.2⟩) ?_
          obtain ⟨r5409, hr5409, hm⟩ := gx_bind hm
          refine Z_call 129 #[.agg #[.int .i64 y5403.Irq, .int .i64 y5403.Priority], .agg #[.int .i64 r5405.Irq, .int .i64 r5405.Priority]] (.int .i64 r5409) (by kernel_rfl) (fun w_ => by kernel_rfl) (fun w_ M_ => (c_i_compareUrgency w_ y5403 r5405 hr5409).mono fun e w2_ h_ => ⟨h_.1, M_.call0 h_.2⟩) ?_
          refine Z_runs [.bool (decide (r5409 > 0)), .bool (decide (r5409 > 0)), .bool (decide (r5409 > 0)), .bool (decide (r5409 > 0))] [(2, .bool (decide (r5409 > 0)))] (fun w_ => by kernel_rfl) (by kernel_rfl) ?_
          refine Z_end fun w5413 M5414 => ?_
          obtain rfl := Option.some.inj hm
          exact N_meet fun a ha => ⟨M5414.pick [] (by kernel_rfl), ha.sub (by kernel_rfl)⟩
      · refine Z_known 15 false (by kernel_rfl) hc5399 ?_
        refine Z_runs [undef, undef, undef, undef, undef, undef, undef, undef, undef, undef, undef, undef, undef, undef, undef, undef, .bool false, .bool false] [(2, .bool false)] (fun w_ => by kernel_rfl) (by kernel_rfl) ?_
        refine Z_end fun w5415 M5416 => ?_
        obtain rfl := Option.some.inj hm
        exact N_meet fun a ha => ⟨M5416.pick [] (by kernel_rfl), ha.sub (by kernel_rfl)⟩
    · intro a5419 w5417 ⟨M5418, hS5420⟩
      refine N_use hS5420 ?_
      have hm := hm5394
      refine N_then ?_
      refine G_ret ?_
      obtain rfl := Option.some.inj hm
      refine N_ret [.bool o5392] (RVs_cons (RV_tmp (by kernel_rfl)) RVs_nil) ?_
      exact ⟨rfl, M5418.pick [] (by kernel_rfl)⟩
theorem c_i_IsQueue (w : World) (x4219 : Queue) (p4221 : Option Addr) (c4222 : Nat) (h4223 : rdS encSlot w x4219.Slots p4221 c4222) (p4225 : Option Addr) (c4226 : Nat) (h4227 : rdS encWaiter w x4219.Waiting p4225 c4226) {r : Bool} (hm : M.i_IsQueue x4219 = some r) :
    Calls Tryz.prog 113 #[.agg #[.slice p4221 x4219.Slots.length c4222, .slice p4225 x4219.Waiting.length c4226]] w fun e w' => e = .returned (.bool r) ∧ Mem [] w w' [] := by
  unfold M.i_IsQueue at hm
  refine C_enter Tryz.func113 rfl (by kernel_rfl) ?_
  have M0 := Mem.refl [] w
  refine G_seq ?_
  refine G_region ?_
  refine W_new (fun b => .pointer (some ⟨b, 0, none⟩)) (.cells ⟨[.slice p4221 x4219.Slots.length c4222, .slice p4225 x4219.Waiting.length c4226]⟩ 85 (0, 0)) M0 rfl (by kernel_rfl) (by kernel_rfl) ?_
  intro b4229 w4230 M4231
  refine W_run 1 [(1, .pointer (some ⟨b4229, 0, none⟩))] w4230 (by kernel_rfl) ?_
  refine W_nil ?_
  refine N_then ?_
  refine G_seq ?_
  obtain ⟨o5425, ho5426, hm5427⟩ := gx_bind hm
  refine G_meet (fun a w' => Mem [] w w' [] ∧ Sat Tryz.f113.ntmps [(2, .bool o5425)] a) ?_ ?_
  · have hm := ho5426
    refine G_region ?_
    refine W_run 1 [(1, .pointer (some ⟨b4229, 0, none⟩)), (3, .pointer (some ⟨b4229, 0, none⟩))] w4230 (by kernel_rfl) ?_
    refine W_val (.slice p4221 x4219.Slots.length c4222) w4230 (by kernel_rfl) (E_load (e := 85) (fr := (0, 0)) _ _ false 1 b4229 0 [.slice p4221 x4219.Slots.length c4222, .slice p4225 x4219.Waiting.length c4226] (.slice p4221 x4219.Slots.length c4222) rfl (by kernel_rfl) (by kernel_rfl) (by kernel_rfl) (M4231.blk 0 (b := b4229) (o := .cells ⟨[.slice p4221 x4219.Slots.length c4222, .slice p4225 x4219.Waiting.length c4226]⟩ 85 (0, 0)) (by kernel_rfl))) ?_
    refine W_run 1 [(1, .pointer (some ⟨b4229, 0, none⟩)), (4, .slice p4221 x4219.Slots.length c4222), (5, .pointer (some ⟨b4229, 1, none⟩))] w4230 (by kernel_rfl) ?_
    refine W_val (.slice p4225 x4219.Waiting.length c4226) w4230 (by kernel_rfl) (E_load (e := 85) (fr := (0, 0)) _ _ false 1 b4229 1 [.slice p4221 x4219.Slots.length c4222, .slice p4225 x4219.Waiting.length c4226] (.slice p4225 x4219.Waiting.length c4226) rfl (by kernel_rfl) (by kernel_rfl) (by kernel_rfl) (M4231.blk 0 (b := b4229) (o := .cells ⟨[.slice p4221 x4219.Slots.length c4222, .slice p4225 x4219.Waiting.length c4226]⟩ 85 (0, 0)) (by kernel_rfl))) ?_
    obtain ⟨r5428, hr5428, hm⟩ := gx_bind hm
    refine W_call 160 #[.slice p4221 x4219.Slots.length c4222, .slice p4225 x4219.Waiting.length c4226] (by kernel_rfl) (by kernel_rfl) ?_
    refine (c_i_areParts w4230 x4219.Slots p4221 c4222 (h4223.mem0 M4231) x4219.Waiting p4225 c4226 (h4227.mem0 M4231) hr5428).mono ?_
    rintro e_ w5429 ⟨rfl, K5430⟩
    have M5431 := M4231.call0 K5430
    refine ⟨_, rfl, ?_⟩
    refine W_run 1 [(1, .pointer (some ⟨b4229, 0, none⟩)), (8, .bool r5428)] w5429 (by kernel_rfl) ?_
    rcases gx_bif hm with ⟨hc5432, hm⟩ | ⟨hc5432, hm⟩
    · refine W_known 8 true (by kernel_rfl) hc5432 ?_
      refine W_val (.agg #[.slice p4221 x4219.Slots.length c4222, .slice p4225 x4219.Waiting.length c4226]) w5429 (by kernel_rfl) (E_load (e := 85) (fr := (0, 0)) _ _ true 2 b4229 0 [.slice p4221 x4219.Slots.length c4222, .slice p4225 x4219.Waiting.length c4226] (.agg #[.slice p4221 x4219.Slots.length c4222, .slice p4225 x4219.Waiting.length c4226]) rfl (by kernel_rfl) (by kernel_rfl) (by kernel_rfl) (M5431.blk 0 (b := b4229) (o := .cells ⟨[.slice p4221 x4219.Slots.length c4222, .slice p4225 x4219.Waiting.length c4226]⟩ 85 (0, 0)) (by kernel_rfl))) ?_
      obtain ⟨r5433, hr5433, hm⟩ := gx_bind hm
      refine W_call 161 #[.agg #[.slice p4221 x4219.Slots.length c4222, .slice p4225 x4219.Waiting.length c4226]] (by kernel_rfl) (by kernel_rfl) ?_
      refine (c_i_isSettled w5429 x4219 p4221 c4222 (h4223.mem0 M5431) p4225 c4226 (h4227.mem0 M5431) hr5433).mono ?_
      rintro e_ w5434 ⟨rfl, K5435⟩
      have M5436 := M5431.call0 K5435
      refine ⟨_, rfl, ?_⟩
      refine W_run 2 [(2, .bool r5433)] w5434 (by kernel_rfl) ?_
      refine W_nil ?_
      obtain rfl := Option.some.inj hm
      exact N_meet fun a ha => ⟨M5436.pick [] (by kernel_rfl), ha.sub (by kernel_rfl)⟩
    · refine W_known 8 false (by kernel_rfl) hc5432 ?_
      refine W_run 4 [(2, .bool false)] w5429 (by kernel_rfl) ?_
      refine W_nil ?_
      obtain rfl := Option.some.inj hm
      exact N_meet fun a ha => ⟨M5431.pick [] (by kernel_rfl), ha.sub (by kernel_rfl)⟩
  · intro a5439 w5437 ⟨M5438, hS5440⟩
    refine N_use hS5440 ?_
    have hm := hm5427
    refine N_then ?_
    refine G_ret ?_
    obtain rfl := Option.some.inj hm
    refine N_ret [.bool o5425] (RVs_cons (RV_tmp (by kernel_rfl)) RVs_nil) ?_
    exact ⟨rfl, M5438.pick [] (by kernel_rfl)⟩
theorem c_i_copyInts (w : World) (x5462 : List Int) (p5464 : Option Addr) (c5465 : Nat) (h5466 : rdS Gx.encI w x5462 p5464 c5465) {r : (List Int)} (hm : M.i_copyInts x5462 = some r) :
    Calls Tryz.prog 67 #[.slice p5464 x5462.length c5465] w fun e w' => ∃ (p5468 : Option Addr) (c5469 : Nat) (sg5470 : Seg), e = .returned (.slice p5468 r.length c5469) ∧ ownS Gx.encI r p5468 c5469 sg5470 ∧ Mem [] w w' [sg5470] := by
  unfold M.i_copyInts at hm
  refine C_enter Tryz.func67 rfl (by kernel_rfl) ?_
  have M0 := Mem.refl [] w
  refine G_seq ?_
  refine G_region ?_
  refine W_run 1 [(0, .slice p5464 x5462.length c5465)] w (by kernel_rfl) ?_
  refine W_nil ?_
  refine N_then ?_
  refine G_seq ?_
  refine G_region ?_
  refine W_lit (E := Gx.encI) ([] : List Int) 0 [] 3 M0 (by kernel_rfl) (by kernel_rfl) (by kernel_rfl) (by kernel_rfl) (by kernel_rfl) ?_
  intro p5472 c5473 sg5474 w5475 ho5476 M5477
  refine W_run 1 [(3, .slice p5472 ([] : List Int).length c5473), (4, .slice p5464 x5462.length c5465)] w5475 (by kernel_rfl) ?_
  obtain ⟨ap5479, hap5479, hm⟩ := gx_bind hm
  refine W_append (E := Gx.encI) _ _ _ 8 [.int .i64 0] 0 c5465 M5477 ho5476 (by kernel_rfl) (by kernel_rfl) (by kernel_rfl) rfl (by kernel_rfl) (by kernel_rfl) (by kernel_rfl) (by kernel_rfl) (by kernel_rfl) (by kernel_rfl) (h5466.mem0 M5477) hap5479 ?_
  intro p5480 c5481 sg5482 w5483 ho5484 M5485
  refine W_run 1 [(2, .slice p5480 ap5479.length c5481)] w5483 (by kernel_rfl) ?_
  refine W_nil ?_
  refine N_then ?_
  refine G_ret ?_
  obtain rfl := Option.some.inj hm
  refine N_ret [.slice p5480 ap5479.length c5481] (RVs_cons (RV_tmp (by kernel_rfl)) RVs_nil) ?_
  exact ⟨p5480, c5481, sg5482, rfl, ho5484, M5485.pick [0] (by kernel_rfl)⟩
theorem c_slices_Sort_114 (w : World) (x5501 : List Int) (p5503 : Option Addr) (c5504 : Nat) (sg5505 : Seg) (ho5506 : ownS Gx.encI x5501 p5503 c5504 sg5505) (hA : ∀ q ∈ List.flatten [sg5505], w.heap[q.1]? = some q.2) (hN : (idsOf [sg5505]).Nodup) {r : (List Int)} (hm : M.slices_Sort_114 x5501 = some r) :
    Calls Tryz.prog 114 #[.slice p5503 x5501.length c5504] w fun e w' => ∃ (sg5507 : Seg), e = .returned (.tuple #[]) ∧ ownS Gx.encI r p5503 c5504 sg5507 ∧ r.length = x5501.length ∧ Mem (idsOf [sg5505]) w w' [sg5507] := by
  unfold M.slices_Sort_114 at hm
  rcases gx_bif hm with ⟨h, hm⟩ | ⟨h, hm⟩
  · obtain rfl := Option.some.inj hm
    exact sortI_run Tryz.slices_Sort_int Tryz.slices_Sort_int_none w x5501 p5503 c5504 sg5505 ho5506 hA hN (of_decide_eq_true h)
  · cases hm
theorem c_i_isActive (w : World) (x5540 : Slot) {r : Bool} (hm : M.i_isActive x5540 = some r) :
    Calls Tryz.prog 164 #[.agg #[.int .i64 x5540.State, .int .i64 x5540.Irq, .int .i64 x5540.Priority]] w fun e w' => e = .returned (.bool r) ∧ Mem [] w w' [] := by
  unfold M.i_isActive at hm
  refine C_enter Tryz.func164 rfl (by kernel_rfl) ?_
  have M0 := Mem.refl [] w
  refine G_seq ?_
  refine G_region ?_
  refine W_new (fun b => .pointer (some ⟨b, 0, none⟩)) (.cells ⟨[.int .i64 x5540.State, .int .i64 x5540.Irq, .int .i64 x5540.Priority]⟩ 117 (0, 0)) M0 rfl (by kernel_rfl) (by kernel_rfl) ?_
  intro b5542 w5543 M5544
  refine W_run 1 [(1, .pointer (some ⟨b5542, 0, none⟩))] w5543 (by kernel_rfl) ?_
  refine W_nil ?_
  refine N_then ?_
  refine G_seq ?_
  obtain ⟨o5546, ho5547, hm5548⟩ := gx_bind hm
  refine G_meet (fun a w' => Mem [] w w' [] ∧ Sat Tryz.f164.ntmps [(2, .bool o5546)] a) ?_ ?_
  · have hm := ho5547
    refine G_region ?_
    refine W_run 1 [(1, .pointer (some ⟨b5542, 0, none⟩)), (3, .pointer (some ⟨b5542, 0, none⟩))] w5543 (by kernel_rfl) ?_
    refine W_val (.int .i64 x5540.State) w5543 (by kernel_rfl) (E_load (e := 117) (fr := (0, 0)) _ _ false 1 b5542 0 [.int .i64 x5540.State, .int .i64 x5540.Irq, .int .i64 x5540.Priority] (.int .i64 x5540.State) rfl (by kernel_rfl) (by kernel_rfl) (by kernel_rfl) (M5544.blk 0 (b := b5542) (o := .cells ⟨[.int .i64 x5540.State, .int .i64 x5540.Irq, .int .i64 x5540.Priority]⟩ 117 (0, 0)) (by kernel_rfl))) ?_
    refine W_run 2 [(1, .pointer (some ⟨b5542, 0, none⟩)), (6, .bool (x5540.State == 2))] w5543 (by kernel_rfl) ?_
    rcases gx_bif hm with ⟨hc5549, hm⟩ | ⟨hc5549, hm⟩
    · refine W_known 6 true (by kernel_rfl) hc5549 ?_
      refine W_run 5 [(2, .bool true)] w5543 (by kernel_rfl) ?_
      refine W_nil ?_
      obtain rfl := Option.some.inj hm
      exact N_meet fun a ha => ⟨M5544.pick [] (by kernel_rfl), ha.sub (by kernel_rfl)⟩
    · refine W_known 6 false (by kernel_rfl) hc5549 ?_
      refine W_run 1 [(6, .bool false), (7, .pointer (some ⟨b5542, 0, none⟩))] w5543 (by kernel_rfl) ?_
      refine W_val (.int .i64 x5540.State) w5543 (by kernel_rfl) (E_load (e := 117) (fr := (0, 0)) _ _ false 1 b5542 0 [.int .i64 x5540.State, .int .i64 x5540.Irq, .int .i64 x5540.Priority] (.int .i64 x5540.State) rfl (by kernel_rfl) (by kernel_rfl) (by kernel_rfl) (M5544.blk 0 (b := b5542) (o := .cells ⟨[.int .i64 x5540.State, .int .i64 x5540.Irq, .int .i64 x5540.Priority]⟩ 117 (0, 0)) (by kernel_rfl))) ?_
      refine W_run 3 [(2, .bool (x5540.State == 3))] w5543 (by kernel_rfl) ?_
      refine W_nil ?_
      obtain rfl := Option.some.inj hm
      exact N_meet fun a ha => ⟨M5544.pick [] (by kernel_rfl), ha.sub (by kernel_rfl)⟩
  · intro a5552 w5550 ⟨M5551, hS5553⟩
    refine N_use hS5553 ?_
    have hm := hm5548
    refine N_then ?_
    refine G_ret ?_
    obtain rfl := Option.some.inj hm
    refine N_ret [.bool o5546] (RVs_cons (RV_tmp (by kernel_rfl)) RVs_nil) ?_
    exact ⟨rfl, M5551.pick [] (by kernel_rfl)⟩
theorem c_i_activeIrqs (w : World) (x5515 : List Slot) (p5517 : Option Addr) (c5518 : Nat) (h5519 : rdS encSlot w x5515 p5517 c5518) {r : (List Int)} (hm : M.i_activeIrqs x5515 = some r) :
    Calls Tryz.prog 116 #[.slice p5517 x5515.length c5518] w fun e w' => ∃ (p5521 : Option Addr) (c5522 : Nat) (sg5523 : Seg), e = .returned (.slice p5521 r.length c5522) ∧ ownS Gx.encI r p5521 c5522 sg5523 ∧ Mem [] w w' [sg5523] := by
  unfold M.i_activeIrqs at hm
  refine C_enter Tryz.func116 rfl (by kernel_rfl) ?_
  have M0 := Mem.refl [] w
  refine G_seq ?_
  refine G_region ?_
  refine W_run 1 [(0, .slice p5517 x5515.length c5518)] w (by kernel_rfl) ?_
  refine W_nil ?_
  refine N_then ?_
  refine G_seq ?_
  refine G_region ?_
  refine W_lit (E := Gx.encI) ([] : List Int) 0 [] 3 M0 (by kernel_rfl) (by kernel_rfl) (by kernel_rfl) (by kernel_rfl) (by kernel_rfl) ?_
  intro p5525 c5526 sg5527 w5528 ho5529 M5530
  refine W_run 1 [(0, .slice p5517 x5515.length c5518), (3, .slice p5525 ([] : List Int).length c5526)] w5528 (by kernel_rfl) ?_
  refine W_nil ?_
  refine N_then ?_
  refine G_seq ?_
  refine G_seq ?_
  refine G_region ?_
  refine W_run 3 [(3, .slice p5525 ([] : List Int).length c5526), (7, .slice p5517 x5515.length c5518), (8, .int .i64 (x5515.length : Int)), (9, .int .i64 0)] w5528 (by kernel_rfl) ?_
  refine W_nil ?_
  refine N_then ?_
  obtain ⟨out5670, hw5671, hmo5672⟩ := gx_bind hm
  refine G_meet (fun a w' => ∃ (p5679 : Option Addr), ∃ (c5680 : Nat), ∃ (sg5681 : Seg), ownS Gx.encI out5670 p5679 c5680 sg5681 ∧ Mem [] w w' [sg5681] ∧ Sat Tryz.f116.ntmps [(3, .slice p5679 out5670.length c5680)] a) ?_ ?_
  · refine G_block ?_
    refine G_while (σ := List Int × Int) (ρ := List Int) (fun s5663 a w' => ∃ (p5673 : Option Addr), ∃ (c5674 : Nat), ∃ (sg5675 : Seg), ownS Gx.encI s5663.1 p5673 c5674 sg5675 ∧ Mem [] w w' [sg5675] ∧ Sat Tryz.f116.ntmps [(3, .slice p5673 s5663.1.length c5674), (7, .slice p5517 x5515.length c5518), (8, .int .i64 (x5515.length : Int)), (9, .int .i64 s5663.2)] a) hw5671 (fun a ha => ⟨p5525, c5526, sg5527, ho5529, M5530.pick [0] (by kernel_rfl), ha.sub (by kernel_rfl)⟩) ?_
    clear hm
    intro s5663 x5664 hm hout5665 a5666 w5667 ⟨p5673, c5674, sg5675, ho5676, M5668, hS5669⟩
    refine G_use hS5669 ?_
    refine G_seq ?_
    refine G_region ?_
    refine W_run 1 [(3, .slice p5673 s5663.1.length c5674), (7, .slice p5517 x5515.length c5518), (8, .int .i64 (x5515.length : Int)), (9, .int .i64 s5663.2), (10, .bool (decide (s5663.2 < (x5515.length : Int))))] w5667 (by kernel_rfl) ?_
    refine W_nil ?_
    refine N_then ?_
    refine G_seq ?_
    rcases gx_bif hm with ⟨hc5684, hm⟩ | ⟨hc5684, hm⟩
    · refine G_cond_t (b := (decide (s5663.2 < (x5515.length : Int)))) hc5684 (by kernel_rfl) ?_
      refine G_skip ?_
      refine N_then ?_
      refine G_seq ?_
      refine G_block ?_
      refine G_seq ?_
      refine G_region ?_
      obtain ⟨y5685, hy5685, hm⟩ := gx_bind hm
      refine W_val (elemP p5517 (s5663.2.toNat * 3)) w5667 (by kernel_rfl) (E_index (E := encSlot) _ _ _ x5515.length c5518 .i64 s5663.2 3 (y := y5685) rfl (by kernel_rfl) (by kernel_rfl) (by kernel_rfl) (h5519.mem0 M5668) rfl hy5685) ?_
      refine W_val (.agg #[.int .i64 y5685.State, .int .i64 y5685.Irq, .int .i64 y5685.Priority]) w5667 (by kernel_rfl) (E_loadE (E := encSlot) _ _ true 3 s5663.2 0 (s5663.2.toNat * 3) y5685 (.agg #[.int .i64 y5685.State, .int .i64 y5685.Irq, .int .i64 y5685.Priority]) rfl (by kernel_rfl) (by kernel_rfl) (by kernel_rfl) (h5519.mem0 M5668) hy5685 rfl) ?_
      refine W_new (fun b => .pointer (some ⟨b, 0, none⟩)) (.cells ⟨[.int .i64 0, .int .i64 0, .int .i64 0]⟩ 117 (0, 0)) M5668 rfl (by kernel_rfl) (by kernel_rfl) ?_
      intro b5687 w5688 M5689
      refine W_store _ _ _ true 3 b5687 0 [.int .i64 0, .int .i64 0, .int .i64 0] 117 (.agg #[.int .i64 y5685.State, .int .i64 y5685.Irq, .int .i64 y5685.Priority]) 1 [.int .i64 y5685.State, .int .i64 y5685.Irq, .int .i64 y5685.Priority] M5689 (by kernel_rfl) rfl (by kernel_rfl) (by kernel_rfl) (by kernel_rfl) (by kernel_rfl) (by kernel_rfl) (by kernel_rfl) (by kernel_rfl) (by kernel_rfl) ?_
      intro w5690 M5691
      refine W_nil ?_
      refine N_then ?_
      refine G_seq ?_
      refine G_region ?_
      refine W_val (.agg #[.int .i64 y5685.State, .int .i64 y5685.Irq, .int .i64 y5685.Priority]) w5690 (by kernel_rfl) (E_load (e := 117) (fr := (0, 0)) _ _ true 3 b5687 0 [.int .i64 y5685.State, .int .i64 y5685.Irq, .int .i64 y5685.Priority] (.agg #[.int .i64 y5685.State, .int .i64 y5685.Irq, .int .i64 y5685.Priority]) rfl (by kernel_rfl) (by kernel_rfl) (by kernel_rfl) (M5691.blk 1 (b := b5687) (o := .cells ⟨[.int .i64 y5685.State, .int .i64 y5685.Irq, .int .i64 y5685.Priority]⟩ 117 (0, 0)) (by kernel_rfl))) ?_
      obtain ⟨r5692, hr5692, hm⟩ := gx_bind hm
      refine W_call 164 #[.agg #[.int .i64 y5685.State, .int .i64 y5685.Irq, .int .i64 y5685.Priority]] (by kernel_rfl) (by kernel_rfl) ?_
      refine (c_i_isActive w5690 y5685 hr5692).mono ?_
      rintro e_ w5693 ⟨rfl, K5694⟩
      have M5695 := M5691.call0 K5694
      refine ⟨_, rfl, ?_⟩
      refine W_nil ?_
      refine N_then ?_
      obtain ⟨o5712, ho5713, hm5714⟩ := gx_bind hm
      refine G_meet (fun a w' => ∃ (p5715 : Option Addr), ∃ (c5716 : Nat), ∃ (sg5717 : Seg), ownS Gx.encI o5712 p5715 c5716 sg5717 ∧ Mem [] w w' [sg5717] ∧ Sat Tryz.f116.ntmps [(3, .slice p5715 o5712.length c5716), (7, .slice p5517 x5515.length c5518), (8, .int .i64 (x5515.length : Int)), (9, .int .i64 s5663.2)] a) ?_ ?_
      · have hm := ho5713
        rcases gx_bif hm with ⟨hc5720, hm⟩ | ⟨hc5720, hm⟩
        · refine G_cond_t (b := r5692) hc5720 (by kernel_rfl) ?_
          refine G_region ?_
          refine W_run 2 [(3, .slice p5673 s5663.1.length c5674), (7, .slice p5517 x5515.length c5518), (8, .int .i64 (x5515.length : Int)), (9, .int .i64 s5663.2), (15, .slice p5673 s5663.1.length c5674), (16, .pointer (some ⟨b5687, 1, none⟩))] w5693 (by kernel_rfl) ?_
          refine W_val (.int .i64 y5685.Irq) w5693 (by kernel_rfl) (E_load (e := 117) (fr := (0, 0)) _ _ false 1 b5687 1 [.int .i64 y5685.State, .int .i64 y5685.Irq, .int .i64 y5685.Priority] (.int .i64 y5685.Irq) rfl (by kernel_rfl) (by kernel_rfl) (by kernel_rfl) (M5695.blk 1 (b := b5687) (o := .cells ⟨[.int .i64 y5685.State, .int .i64 y5685.Irq, .int .i64 y5685.Priority]⟩ 117 (0, 0)) (by kernel_rfl))) ?_
          refine W_lit (E := Gx.encI) [y5685.Irq] 1 [.int .i64 y5685.Irq] 3 M5695 (by kernel_rfl) (by kernel_rfl) (by kernel_rfl) (by kernel_rfl) (by kernel_rfl) ?_
          intro p5721 c5722 sg5723 w5724 ho5725 M5726
          obtain ⟨ap5728, hap5728, hm⟩ := gx_bind hm
          refine W_append (E := Gx.encI) _ _ _ 8 [.int .i64 0] 0 c5722 M5726 ho5676 (by kernel_rfl) (by kernel_rfl) (by kernel_rfl) rfl (by kernel_rfl) (by kernel_rfl) (by kernel_rfl) (by kernel_rfl) (by kernel_rfl) (by kernel_rfl) (ho5725.rd M5726 2 (by kernel_rfl)) hap5728 ?_
          intro p5729 c5730 sg5731 w5732 ho5733 M5734
          refine W_run 1 [(3, .slice p5729 ap5728.length c5730), (7, .slice p5517 x5515.length c5518), (8, .int .i64 (x5515.length : Int)), (9, .int .i64 s5663.2)] w5732 (by kernel_rfl) ?_
          refine W_nil ?_
          obtain rfl := Option.some.inj hm
          exact N_meet fun a ha => ⟨p5729, c5730, sg5731, ho5733, M5734.pick [0] (by kernel_rfl), ha.sub (by kernel_rfl)⟩
        · refine G_cond_f (b := r5692) hc5720 (by kernel_rfl) ?_
          refine G_skip ?_
          obtain rfl := Option.some.inj hm
          exact N_meet fun a ha => ⟨p5673, c5674, sg5675, ho5676, M5695.pick [0] (by kernel_rfl), ha.sub (by kernel_rfl)⟩
      · intro a5738 w5736 ⟨p5715, c5716, sg5717, ho5718, M5737, hS5739⟩
        refine N_use hS5739 ?_
        have hm := hm5714
        refine N_block ?_
        refine N_then ?_
        refine G_region ?_
        refine W_run 2 [(3, .slice p5715 o5712.length c5716), (7, .slice p5517 x5515.length c5518), (8, .int .i64 (x5515.length : Int)), (9, .int .i64 (w64 (s5663.2 + 1)))] w5736 (by kernel_rfl) ?_
        refine W_nil ?_
        obtain rfl := Option.some.inj hm
        exact N_loop fun a ha => ⟨_, rfl, p5715, c5716, sg5717, ho5718, M5737.pick [0] (by kernel_rfl), ha.sub (by kernel_rfl)⟩
    · refine G_cond_f (b := (decide (s5663.2 < (x5515.length : Int)))) hc5684 (by kernel_rfl) ?_
      refine G_exit ?_
      refine N_then_exit ?_
      refine N_then_exit ?_
      refine N_block_eq ?_
      obtain rfl := Option.some.inj hm
      obtain rfl := hout5665 _ rfl
      exact N_meet fun a ha => ⟨p5673, c5674, sg5675, ho5676, M5668.pick [0] (by kernel_rfl), ha.sub (by kernel_rfl)⟩
  · intro a5740 w5741 ⟨p5679, c5680, sg5681, ho5682, M5742, hS5743⟩
    refine N_use hS5743 ?_
    have hm := hmo5672
    refine N_then ?_
    refine G_seq ?_
    refine G_region ?_
    refine W_run 1 [(3, .slice p5679 out5670.length c5680), (21, .slice p5679 out5670.length c5680)] w5741 (by kernel_rfl) ?_
    obtain ⟨r5744, hr5744, hm⟩ := gx_bind hm
    refine W_call 114 #[.slice p5679 out5670.length c5680] (by kernel_rfl) (by kernel_rfl) ?_
    refine (c_slices_Sort_114 w5741 out5670 p5679 c5680 sg5681 ho5682 (M5742.hasPick [0]) (M5742.nodupPick [0] (by kernel_rfl)) hr5744).mono ?_
    rintro e_ w5748 ⟨sg5745, rfl, ho5746, hl5747, K5749⟩
    have M5750 := M5742.callF' [0] [] (by kernel_rfl) K5749
    refine ⟨_, rfl, ?_⟩
    refine W_conv 3 (.slice p5679 out5670.length c5680) (.slice p5679 r5744.length c5680) (by kernel_rfl) (by first | rw [hl5747] | rw [hl5747]) ?_
    refine W_conv 21 (.slice p5679 out5670.length c5680) (.slice p5679 r5744.length c5680) (by kernel_rfl) (by first | rw [hl5747] | rw [hl5747]) ?_
    refine W_nil ?_
    refine N_then ?_
    refine G_seq ?_
    refine G_region ?_
    refine W_run 2 [(2, .slice p5679 r5744.length c5680)] w5748 (by kernel_rfl) ?_
    refine W_nil ?_
    refine N_then ?_
    refine G_ret ?_
    obtain rfl := Option.some.inj hm
    refine N_ret [.slice p5679 r5744.length c5680] (RVs_cons (RV_tmp (by kernel_rfl)) RVs_nil) ?_
    exact ⟨p5679, c5680, sg5745, rfl, ho5746, M5750.pick [0] (by kernel_rfl)⟩
theorem c_slices_Equal_115 (w : World) (x5760 : List Int) (p5762 : Option Addr) (c5763 : Nat) (h5764 : rdS Gx.encI w x5760 p5762 c5763) (x5765 : List Int) (p5767 : Option Addr) (c5768 : Nat) (h5769 : rdS Gx.encI w x5765 p5767 c5768) {r : Bool} (hm : M.slices_Equal_115 x5760 x5765 = some r) :
    Calls Tryz.prog 115 #[.slice p5762 x5760.length c5763, .slice p5767 x5765.length c5768] w fun e w' => e = .returned (.bool r) ∧ Mem [] w w' [] := by
  unfold M.slices_Equal_115 at hm
  refine C_enter Tryz.func115 rfl (by kernel_rfl) ?_
  have M0 := Mem.refl [] w
  refine G_seq ?_
  refine G_region ?_
  refine W_run 1 [(0, .slice p5762 x5760.length c5763), (1, .slice p5767 x5765.length c5768)] w (by kernel_rfl) ?_
  refine W_nil ?_
  refine N_then ?_
  refine G_seq ?_
  refine G_seq ?_
  refine G_region ?_
  refine W_run 5 [(0, .slice p5762 x5760.length c5763), (1, .slice p5767 x5765.length c5768), (10, .bool ((x5760.length : Int) != (x5765.length : Int)))] w (by kernel_rfl) ?_
  refine W_nil ?_
  refine N_then ?_
  rcases gx_bif hm with ⟨hc5770, hm⟩ | ⟨hc5770, hm⟩
  · refine G_cond_t (b := ((x5760.length : Int) != (x5765.length : Int))) hc5770 (by kernel_rfl) ?_
    refine G_seq ?_
    refine G_region ?_
    refine W_run 1 [(4, .bool false)] w (by kernel_rfl) ?_
    refine W_nil ?_
    refine N_then ?_
    refine G_ret ?_
    refine N_then_ret ?_
    obtain rfl := Option.some.inj hm
    refine N_ret [.bool false] (RVs_cons (RV_tmp (by kernel_rfl)) RVs_nil) ?_
    exact ⟨rfl, M0.pick [] (by kernel_rfl)⟩
  · refine G_cond_f (b := ((x5760.length : Int) != (x5765.length : Int))) hc5770 (by kernel_rfl) ?_
    refine G_skip ?_
    refine N_then ?_
    refine G_seq ?_
    refine G_seq ?_
    refine G_region ?_
    refine W_run 3 [(0, .slice p5762 x5760.length c5763), (1, .slice p5767 x5765.length c5768), (12, .int .i64 (x5760.length : Int)), (13, .int .i64 0)] w (by kernel_rfl) ?_
    refine W_nil ?_
    refine N_then ?_
    obtain ⟨out5790, hw5791, hmo5792⟩ := gx_bind hm
    refine G_meet (fun a w' => ∃ (o5793 : Unit), out5790 = .inl o5793 ∧ Mem [] w w' [] ∧ Sat Tryz.f115.ntmps [] a) ?_ ?_
    · refine G_block ?_
      refine G_while (σ := Int) (ρ := (Unit) ⊕ (Bool)) (fun s5783 a w' => Mem [] w w' [] ∧ Sat Tryz.f115.ntmps [(0, .slice p5762 x5760.length c5763), (1, .slice p5767 x5765.length c5768), (12, .int .i64 (x5760.length : Int)), (13, .int .i64 s5783)] a) hw5791 (fun a ha => ⟨M0.pick [] (by kernel_rfl), ha.sub (by kernel_rfl)⟩) ?_
      clear hm
      intro s5783 x5784 hm hout5785 a5786 w5787 ⟨M5788, hS5789⟩
      refine G_use hS5789 ?_
      refine G_seq ?_
      refine G_region ?_
      refine W_run 1 [(0, .slice p5762 x5760.length c5763), (1, .slice p5767 x5765.length c5768), (12, .int .i64 (x5760.length : Int)), (13, .int .i64 s5783), (14, .bool (decide (s5783 < (x5760.length : Int))))] w5787 (by kernel_rfl) ?_
      refine W_nil ?_
      refine N_then ?_
      refine G_seq ?_
      rcases gx_bif hm with ⟨hc5794, hm⟩ | ⟨hc5794, hm⟩
      · refine G_cond_t (b := (decide (s5783 < (x5760.length : Int)))) hc5794 (by kernel_rfl) ?_
        refine G_skip ?_
        refine N_then ?_
        refine G_seq ?_
        refine G_block ?_
        refine G_seq ?_
        refine G_region ?_
        refine W_run 2 [(0, .slice p5762 x5760.length c5763), (1, .slice p5767 x5765.length c5768), (5, .int .i64 s5783), (12, .int .i64 (x5760.length : Int)), (13, .int .i64 s5783)] w5787 (by kernel_rfl) ?_
        refine W_nil ?_
        refine N_then ?_
        refine G_seq ?_
        refine G_quiet (by kernel_rfl) (by kernel_rfl) M5788 ?_
        refine Z_runs [.slice p5762 x5760.length c5763, .int .i64 s5783] [(0, .slice p5762 x5760.length c5763), (1, .slice p5767 x5765.length c5768), (5, .int .i64 s5783), (12, .int .i64 (x5760.length : Int)), (13, .int .i64 s5783), (16, .slice p5762 x5760.length c5763), (17, .int .i64 s5783)] (fun w_ => by kernel_rfl) (by kernel_rfl) ?_
        obtain ⟨y5795, hy5795, hm⟩ := gx_bind hm
        refine Z_val (elemP p5762 (s5783.toNat * 1)) (by kernel_rfl) (fun w_ M_ => (E_index (E := Gx.encI) _ _ _ x5760.length c5763 .i64 s5783 1 (y := y5795) rfl (by kernel_rfl) (by kernel_rfl) (by kernel_rfl) (h5764.mem0 M_) rfl hy5795)) ?_
        refine Z_val (.int .i64 y5795) (by kernel_rfl) (fun w_ M_ => (E_loadE (E := Gx.encI) _ _ false 1 s5783 0 (s5783.toNat * 1) y5795 (.int .i64 y5795) rfl (by kernel_rfl) (by kernel_rfl) (by kernel_rfl) (h5764.mem0 M_) hy5795 rfl)) ?_
        refine Z_runs [.slice p5767 x5765.length c5768, .int .i64 s5783] [(0, .slice p5762 x5760.length c5763), (1, .slice p5767 x5765.length c5768), (12, .int .i64 (x5760.length : Int)), (13, .int .i64 s5783), (19, .int .i64 y5795), (20, .slice p5767 x5765.length c5768), (21, .int .i64 s5783)] (fun w_ => by kernel_rfl) (by kernel_rfl) ?_
        obtain ⟨y5796, hy5796, hm⟩ := gx_bind hm
        refine Z_val (elemP p5767 (s5783.toNat * 1)) (by kernel_rfl) (fun w_ M_ => (E_index (E := Gx.encI) _ _ _ x5765.length c5768 .i64 s5783 1 (y := y5796) rfl (by kernel_rfl) (by kernel_rfl) (by kernel_rfl) (h5769.mem0 M_) rfl hy5796)) ?_
        refine Z_val (.int .i64 y5796) (by kernel_rfl) (fun w_ M_ => (E_loadE (E := Gx.encI) _ _ false 1 s5783 0 (s5783.toNat * 1) y5796 (.int .i64 y5796) rfl (by kernel_rfl) (by kernel_rfl) (by kernel_rfl) (h5769.mem0 M_) hy5796 rfl)) ?_
        refine Z_runs [.bool (y5795 != y5796)] [(0, .slice p5762 x5760.length c5763), (1, .slice p5767 x5765.length c5768), (12, .int .i64 (x5760.length : Int)), (13, .int .i64 s5783), (24, .bool (y5795 != y5796))] (fun w_ => by kernel_rfl) (by kernel_rfl) ?_
        refine Z_end fun w5797 M5798 => ?_
        refine N_then ?_
        rcases gx_bif hm with ⟨hc5799, hm⟩ | ⟨hc5799, hm⟩
        · refine G_cond_t (b := (y5795 != y5796)) hc5799 (by kernel_rfl) ?_
          refine G_seq ?_
          refine G_region ?_
          refine W_run 1 [(4, .bool false)] w5797 (by kernel_rfl) ?_
          refine W_nil ?_
          refine N_then ?_
          refine G_ret ?_
          refine N_block_ret ?_
          refine N_then_ret ?_
          refine N_then_ret ?_
          obtain rfl := Option.some.inj hm
          obtain rfl := hout5785 _ rfl
          have hm := hmo5792; simp only [Sum.elim_inr] at hm
          refine N_block_ret ?_
          refine N_meet_ret ?_
          refine N_then_ret ?_
          obtain rfl := Option.some.inj hm
          refine N_ret [.bool false] (RVs_cons (RV_tmp (by kernel_rfl)) RVs_nil) ?_
          exact ⟨rfl, M5798.pick [] (by kernel_rfl)⟩
        · refine G_cond_f (b := (y5795 != y5796)) hc5799 (by kernel_rfl) ?_
          refine G_skip ?_
          refine N_block ?_
          refine N_then ?_
          refine G_region ?_
          refine W_run 2 [(0, .slice p5762 x5760.length c5763), (1, .slice p5767 x5765.length c5768), (12, .int .i64 (x5760.length : Int)), (13, .int .i64 (w64 (s5783 + 1)))] w5797 (by kernel_rfl) ?_
          refine W_nil ?_
          obtain rfl := Option.some.inj hm
          exact N_loop fun a ha => ⟨_, rfl, M5798.pick [] (by kernel_rfl), ha.sub (by kernel_rfl)⟩
      · refine G_cond_f (b := (decide (s5783 < (x5760.length : Int)))) hc5794 (by kernel_rfl) ?_
        refine G_exit ?_
        refine N_then_exit ?_
        refine N_then_exit ?_
        refine N_block_eq ?_
        obtain rfl := Option.some.inj hm
        obtain rfl := hout5785 _ rfl
        exact N_meet fun a ha => ⟨_, rfl, M5788.pick [] (by kernel_rfl), ha.sub (by kernel_rfl)⟩
    · intro a5800 w5801 ⟨o5793, hout_, M5802, hS5803⟩
      refine N_use hS5803 ?_
      subst hout_
      have hm := hmo5792; simp only [Sum.elim_inl] at hm
      refine N_then ?_
      refine G_seq ?_
      refine G_region ?_
      refine W_run 1 [(4, .bool true)] w5801 (by kernel_rfl) ?_
      refine W_nil ?_
      refine N_then ?_
      refine G_ret ?_
      obtain rfl := Option.some.inj hm
      refine N_ret [.bool true] (RVs_cons (RV_tmp (by kernel_rfl)) RVs_nil) ?_
      exact ⟨rfl, M5802.pick [] (by kernel_rfl)⟩
theorem c_i_priorityIn (w : World) (x5811 : List Slot) (p5813 : Option Addr) (c5814 : Nat) (h5815 : rdS encSlot w x5811 p5813 c5814) (x5816 : Int) {r : Int} (hm : M.i_priorityIn x5811 x5816 = some r) :
    Calls Tryz.prog 117 #[.slice p5813 x5811.length c5814, .int .i64 x5816] w fun e w' => e = .returned (.int .i64 r) ∧ Mem [] w w' [] := by
  unfold M.i_priorityIn at hm
  refine C_enter Tryz.func117 rfl (by kernel_rfl) ?_
  have M0 := Mem.refl [] w
  refine G_seq ?_
  refine G_region ?_
  refine W_run 1 [(0, .slice p5813 x5811.length c5814), (1, .int .i64 x5816)] w (by kernel_rfl) ?_
  refine W_nil ?_
  refine N_then ?_
  refine G_seq ?_
  refine G_region ?_
  refine W_run 3 [(5, .slice p5813 x5811.length c5814), (6, .slice p5813 x5811.length c5814), (7, .int .i64 x5816)] w (by kernel_rfl) ?_
  obtain ⟨r5817, hr5817, hm⟩ := gx_bind hm
  refine W_call 165 #[.slice p5813 x5811.length c5814, .int .i64 x5816] (by kernel_rfl) (by kernel_rfl) ?_
  refine (c_i_findSlot w x5811 p5813 c5814 (h5815.mem0 M0) x5816 hr5817).mono ?_
  rintro e_ w5818 ⟨rfl, K5819⟩
  have M5820 := M0.call0 K5819
  refine ⟨_, rfl, ?_⟩
  obtain ⟨y5821, hy5821, hm⟩ := gx_bind hm
  refine W_val (elemP p5813 (r5817.toNat * 3)) w5818 (by kernel_rfl) (E_index (E := encSlot) _ _ _ x5811.length c5814 .i64 r5817 3 (y := y5821) rfl (by kernel_rfl) (by kernel_rfl) (by kernel_rfl) (h5815.mem0 M5820) rfl hy5821) ?_
  refine W_val (elemP p5813 (r5817.toNat * 3 + 2)) w5818 (by kernel_rfl) (E_fieldE (E := encSlot) _ _ 2 (r5817.toNat * 3) 2 rfl (by kernel_rfl) (by kernel_rfl) (h5815.mem0 M5820) hy5821) ?_
  refine W_val (.int .i64 y5821.Priority) w5818 (by kernel_rfl) (E_loadE (E := encSlot) _ _ false 1 r5817 2 (r5817.toNat * 3 + 2) y5821 (.int .i64 y5821.Priority) rfl (by kernel_rfl) (by kernel_rfl) (by kernel_rfl) (h5815.mem0 M5820) hy5821 rfl) ?_
  refine W_run 1 [(4, .int .i64 y5821.Priority)] w5818 (by kernel_rfl) ?_
  refine W_nil ?_
  refine N_then ?_
  refine G_ret ?_
  obtain rfl := Option.some.inj hm
  refine N_ret [.int .i64 y5821.Priority] (RVs_cons (RV_tmp (by kernel_rfl)) RVs_nil) ?_
  exact ⟨rfl, M5820.pick [] (by kernel_rfl)⟩
theorem c_i_IsInterface (w : World) (x4192 : Interface) (p4194 : Option Addr) (c4195 : Nat) (h4196 : rdS Gx.encI w x4192.Stack p4194 c4195) (p4198 : Option Addr) (c4199 : Nat) (h4200 : rdS encSlot w x4192.Queue.Slots p4198 c4199) (p4202 : Option Addr) (c4203 : Nat) (h4204 : rdS encWaiter w x4192.Queue.Waiting p4202 c4203) {r : Bool} (hm : M.i_IsInterface x4192 = some r) :
    Calls Tryz.prog 59 #[.agg #[.int .i64 x4192.Mask, .slice p4194 x4192.Stack.length c4195, .slice p4198 x4192.Queue.Slots.length c4199, .slice p4202 x4192.Queue.Waiting.length c4203]] w fun e w' => e = .returned (.bool r) ∧ Mem [] w w' [] := by
  unfold M.i_IsInterface at hm
  refine C_enter Tryz.func59 rfl (by kernel_rfl) ?_
  have M0 := Mem.refl [] w
  refine G_seq ?_
  refine G_region ?_
  refine W_new (fun b => .pointer (some ⟨b, 0, none⟩)) (.cells ⟨[.int .i64 x4192.Mask, .slice p4194 x4192.Stack.length c4195, .slice p4198 x4192.Queue.Slots.length c4199, .slice p4202 x4192.Queue.Waiting.length c4203]⟩ 87 (0, 0)) M0 rfl (by kernel_rfl) (by kernel_rfl) ?_
  intro b4206 w4207 M4208
  refine W_run 1 [(1, .pointer (some ⟨b4206, 0, none⟩))] w4207 (by kernel_rfl) ?_
  refine W_nil ?_
  refine N_then ?_
  refine G_seq ?_
  refine G_seq ?_
  obtain ⟨o5445, ho5446, hm5447⟩ := gx_bind hm
  refine G_meet (fun a w' => Mem [] w w' [[(b4206, .cells ⟨[.int .i64 x4192.Mask, .slice p4194 x4192.Stack.length c4195, .slice p4198 x4192.Queue.Slots.length c4199, .slice p4202 x4192.Queue.Waiting.length c4203]⟩ 87 (0, 0))]] ∧ Sat Tryz.f59.ntmps [(1, .pointer (some ⟨b4206, 0, none⟩)), (14, .bool o5445)] a) ?_ ?_
  · have hm := ho5446
    refine G_region ?_
    refine W_run 1 [(1, .pointer (some ⟨b4206, 0, none⟩)), (5, .pointer (some ⟨b4206, 0, none⟩))] w4207 (by kernel_rfl) ?_
    refine W_val (.int .i64 x4192.Mask) w4207 (by kernel_rfl) (E_load (e := 87) (fr := (0, 0)) _ _ false 1 b4206 0 [.int .i64 x4192.Mask, .slice p4194 x4192.Stack.length c4195, .slice p4198 x4192.Queue.Slots.length c4199, .slice p4202 x4192.Queue.Waiting.length c4203] (.int .i64 x4192.Mask) rfl (by kernel_rfl) (by kernel_rfl) (by kernel_rfl) (M4208.blk 0 (b := b4206) (o := .cells ⟨[.int .i64 x4192.Mask, .slice p4194 x4192.Stack.length c4195, .slice p4198 x4192.Queue.Slots.length c4199, .slice p4202 x4192.Queue.Waiting.length c4203]⟩ 87 (0, 0)) (by kernel_rfl))) ?_
    obtain ⟨r5448, hr5448, hm⟩ := gx_bind hm
    refine W_call 112 #[.int .i64 x4192.Mask] (by kernel_rfl) (by kernel_rfl) ?_
    refine (c_i_isMask w4207 x4192.Mask hr5448).mono ?_
    rintro e_ w5449 ⟨rfl, K5450⟩
    have M5451 := M4208.call0 K5450
    refine ⟨_, rfl, ?_⟩
    refine W_run 2 [(1, .pointer (some ⟨b4206, 0, none⟩)), (9, .bool (!r5448))] w5449 (by kernel_rfl) ?_
    rcases gx_bif hm with ⟨hc5452, hm⟩ | ⟨hc5452, hm⟩
    · refine W_known 9 true (by kernel_rfl) hc5452 ?_
      refine W_run 5 [(1, .pointer (some ⟨b4206, 0, none⟩)), (14, .bool true)] w5449 (by kernel_rfl) ?_
      refine W_nil ?_
      obtain rfl := Option.some.inj hm
      exact N_meet fun a ha => ⟨M5451.pick [0] (by kernel_rfl), ha.sub (by kernel_rfl)⟩
    · refine W_known 9 false (by kernel_rfl) hc5452 ?_
      refine W_run 1 [(1, .pointer (some ⟨b4206, 0, none⟩)), (9, .bool false), (10, .pointer (some ⟨b4206, 2, none⟩))] w5449 (by kernel_rfl) ?_
      refine W_val (.agg #[.slice p4198 x4192.Queue.Slots.length c4199, .slice p4202 x4192.Queue.Waiting.length c4203]) w5449 (by kernel_rfl) (E_load (e := 87) (fr := (0, 0)) _ _ true 2 b4206 2 [.int .i64 x4192.Mask, .slice p4194 x4192.Stack.length c4195, .slice p4198 x4192.Queue.Slots.length c4199, .slice p4202 x4192.Queue.Waiting.length c4203] (.agg #[.slice p4198 x4192.Queue.Slots.length c4199, .slice p4202 x4192.Queue.Waiting.length c4203]) rfl (by kernel_rfl) (by kernel_rfl) (by kernel_rfl) (M5451.blk 0 (b := b4206) (o := .cells ⟨[.int .i64 x4192.Mask, .slice p4194 x4192.Stack.length c4195, .slice p4198 x4192.Queue.Slots.length c4199, .slice p4202 x4192.Queue.Waiting.length c4203]⟩ 87 (0, 0)) (by kernel_rfl))) ?_
      obtain ⟨r5453, hr5453, hm⟩ := gx_bind hm
      refine W_call 113 #[.agg #[.slice p4198 x4192.Queue.Slots.length c4199, .slice p4202 x4192.Queue.Waiting.length c4203]] (by kernel_rfl) (by kernel_rfl) ?_
      refine (c_i_IsQueue w5449 (⟨x4192.Queue.Slots, x4192.Queue.Waiting⟩ : Queue) p4198 c4199 (h4200.mem0 M5451) p4202 c4203 (h4204.mem0 M5451) hr5453).mono ?_
      rintro e_ w5454 ⟨rfl, K5455⟩
      have M5456 := M5451.call0 K5455
      refine ⟨_, rfl, ?_⟩
      refine W_run 2 [(1, .pointer (some ⟨b4206, 0, none⟩)), (14, .bool (!r5453))] w5454 (by kernel_rfl) ?_
      refine W_nil ?_
      obtain rfl := Option.some.inj hm
      exact N_meet fun a ha => ⟨M5456.pick [0] (by kernel_rfl), ha.sub (by kernel_rfl)⟩
  · intro a5459 w5457 ⟨M5458, hS5460⟩
    refine N_use hS5460 ?_
    have hm := hm5447
    refine N_then ?_
    rcases gx_bif hm with ⟨hc5461, hm⟩ | ⟨hc5461, hm⟩
    · refine G_cond_t (b := o5445) hc5461 (by kernel_rfl) ?_
      refine G_seq ?_
      refine G_region ?_
      refine W_run 1 [(2, .bool false)] w5457 (by kernel_rfl) ?_
      refine W_nil ?_
      refine N_then ?_
      refine G_ret ?_
      refine N_then_ret ?_
      obtain rfl := Option.some.inj hm
      refine N_ret [.bool false] (RVs_cons (RV_tmp (by kernel_rfl)) RVs_nil) ?_
      exact ⟨rfl, M5458.pick [] (by kernel_rfl)⟩
    · refine G_cond_f (b := o5445) hc5461 (by kernel_rfl) ?_
      refine G_skip ?_
      refine N_then ?_
      refine G_seq ?_
      refine G_region ?_
      refine W_run 1 [(1, .pointer (some ⟨b4206, 0, none⟩)), (15, .pointer (some ⟨b4206, 1, none⟩))] w5457 (by kernel_rfl) ?_
      refine W_val (.slice p4194 x4192.Stack.length c4195) w5457 (by kernel_rfl) (E_load (e := 87) (fr := (0, 0)) _ _ false 1 b4206 1 [.int .i64 x4192.Mask, .slice p4194 x4192.Stack.length c4195, .slice p4198 x4192.Queue.Slots.length c4199, .slice p4202 x4192.Queue.Waiting.length c4203] (.slice p4194 x4192.Stack.length c4195) rfl (by kernel_rfl) (by kernel_rfl) (by kernel_rfl) (M5458.blk 0 (b := b4206) (o := .cells ⟨[.int .i64 x4192.Mask, .slice p4194 x4192.Stack.length c4195, .slice p4198 x4192.Queue.Slots.length c4199, .slice p4202 x4192.Queue.Waiting.length c4203]⟩ 87 (0, 0)) (by kernel_rfl))) ?_
      obtain ⟨r5487, hr5487, hm⟩ := gx_bind hm
      refine W_call 67 #[.slice p4194 x4192.Stack.length c4195] (by kernel_rfl) (by kernel_rfl) ?_
      refine (c_i_copyInts w5457 x4192.Stack p4194 c4195 (h4196.mem0 M5458) hr5487).mono ?_
      rintro e_ w5493 ⟨p5489, c5490, sg5491, rfl, ho5492, K5494⟩
      have M5495 := M5458.call K5494
      refine ⟨_, rfl, ?_⟩
      refine W_run 1 [(1, .pointer (some ⟨b4206, 0, none⟩)), (3, .slice p5489 r5487.length c5490)] w5493 (by kernel_rfl) ?_
      refine W_nil ?_
      refine N_then ?_
      refine G_seq ?_
      refine G_region ?_
      refine W_run 1 [(1, .pointer (some ⟨b4206, 0, none⟩)), (3, .slice p5489 r5487.length c5490), (18, .slice p5489 r5487.length c5490)] w5493 (by kernel_rfl) ?_
      obtain ⟨r5508, hr5508, hm⟩ := gx_bind hm
      refine W_call 114 #[.slice p5489 r5487.length c5490] (by kernel_rfl) (by kernel_rfl) ?_
      refine (c_slices_Sort_114 w5493 r5487 p5489 c5490 sg5491 ho5492 (M5495.hasPick [1]) (M5495.nodupPick [1] (by kernel_rfl)) hr5508).mono ?_
      rintro e_ w5512 ⟨sg5509, rfl, ho5510, hl5511, K5513⟩
      have M5514 := M5495.callF' [1] [0] (by kernel_rfl) K5513
      refine ⟨_, rfl, ?_⟩
      refine W_conv 3 (.slice p5489 r5487.length c5490) (.slice p5489 r5508.length c5490) (by kernel_rfl) (by first | rw [hl5511] | rw [hl5511]) ?_
      refine W_conv 18 (.slice p5489 r5487.length c5490) (.slice p5489 r5508.length c5490) (by kernel_rfl) (by first | rw [hl5511] | rw [hl5511]) ?_
      refine W_nil ?_
      refine N_then ?_
      refine G_seq ?_
      refine G_seq ?_
      refine G_region ?_
      refine W_run 3 [(1, .pointer (some ⟨b4206, 0, none⟩)), (20, .slice p5489 r5508.length c5490), (22, .pointer (some ⟨b4206, 2, none⟩))] w5512 (by kernel_rfl) ?_
      refine W_val (.slice p4198 x4192.Queue.Slots.length c4199) w5512 (by kernel_rfl) (E_load (e := 87) (fr := (0, 0)) _ _ false 1 b4206 2 [.int .i64 x4192.Mask, .slice p4194 x4192.Stack.length c4195, .slice p4198 x4192.Queue.Slots.length c4199, .slice p4202 x4192.Queue.Waiting.length c4203] (.slice p4198 x4192.Queue.Slots.length c4199) rfl (by kernel_rfl) (by kernel_rfl) (by kernel_rfl) (M5514.blk 0 (b := b4206) (o := .cells ⟨[.int .i64 x4192.Mask, .slice p4194 x4192.Stack.length c4195, .slice p4198 x4192.Queue.Slots.length c4199, .slice p4202 x4192.Queue.Waiting.length c4203]⟩ 87 (0, 0)) (by kernel_rfl))) ?_
      obtain ⟨r5751, hr5751, hm⟩ := gx_bind hm
      refine W_call 116 #[.slice p4198 x4192.Queue.Slots.length c4199] (by kernel_rfl) (by kernel_rfl) ?_
      refine (c_i_activeIrqs w5512 x4192.Queue.Slots p4198 c4199 (h4200.mem0 M5514) hr5751).mono ?_
      rintro e_ w5757 ⟨p5753, c5754, sg5755, rfl, ho5756, K5758⟩
      have M5759 := M5514.call K5758
      refine ⟨_, rfl, ?_⟩
      obtain ⟨r5804, hr5804, hm⟩ := gx_bind hm
      refine W_call 115 #[.slice p5489 r5508.length c5490, .slice p5753 r5751.length c5754] (by kernel_rfl) (by kernel_rfl) ?_
      refine (c_slices_Equal_115 w5757 r5508 p5489 c5490 (ho5510.rd M5759 1 (by kernel_rfl)) r5751 p5753 c5754 (ho5756.rd M5759 2 (by kernel_rfl)) hr5804).mono ?_
      rintro e_ w5805 ⟨rfl, K5806⟩
      have M5807 := M5759.call0 K5806
      refine ⟨_, rfl, ?_⟩
      refine W_run 1 [(1, .pointer (some ⟨b4206, 0, none⟩)), (26, .bool (!r5804))] w5805 (by kernel_rfl) ?_
      refine W_nil ?_
      refine N_then ?_
      rcases gx_bif hm with ⟨hc5808, hm⟩ | ⟨hc5808, hm⟩
      · refine G_cond_t (b := (!r5804)) hc5808 (by kernel_rfl) ?_
        refine G_seq ?_
        refine G_region ?_
        refine W_run 1 [(2, .bool false)] w5805 (by kernel_rfl) ?_
        refine W_nil ?_
        refine N_then ?_
        refine G_ret ?_
        refine N_then_ret ?_
        obtain rfl := Option.some.inj hm
        refine N_ret [.bool false] (RVs_cons (RV_tmp (by kernel_rfl)) RVs_nil) ?_
        exact ⟨rfl, M5807.pick [] (by kernel_rfl)⟩
      · refine G_cond_f (b := (!r5804)) hc5808 (by kernel_rfl) ?_
        refine G_skip ?_
        refine N_then ?_
        refine G_seq ?_
        refine G_seq ?_
        refine G_region ?_
        refine W_run 1 [(1, .pointer (some ⟨b4206, 0, none⟩)), (4, .int .i64 1)] w5805 (by kernel_rfl) ?_
        refine W_nil ?_
        refine N_then ?_
        obtain ⟨out5855, hw5856, hmo5857⟩ := gx_bind hm
        refine G_meet (fun a w' => ∃ (o5858 : Unit), out5855 = .inl o5858 ∧ Mem [] w w' [] ∧ Sat Tryz.f59.ntmps [] a) ?_ ?_
        · refine G_block ?_
          refine G_while (σ := Int) (ρ := (Unit) ⊕ (Bool)) (fun s5848 a w' => Mem [] w w' [[(b4206, .cells ⟨[.int .i64 x4192.Mask, .slice p4194 x4192.Stack.length c4195, .slice p4198 x4192.Queue.Slots.length c4199, .slice p4202 x4192.Queue.Waiting.length c4203]⟩ 87 (0, 0))]] ∧ Sat Tryz.f59.ntmps [(1, .pointer (some ⟨b4206, 0, none⟩)), (4, .int .i64 s5848)] a) hw5856 (fun a ha => ⟨M5807.pick [0] (by kernel_rfl), ha.sub (by kernel_rfl)⟩) ?_
          clear hm
          intro s5848 x5849 hm hout5850 a5851 w5852 ⟨M5853, hS5854⟩
          refine G_use hS5854 ?_
          refine G_seq ?_
          refine G_seq ?_
          refine G_region ?_
          refine W_run 2 [(1, .pointer (some ⟨b4206, 0, none⟩)), (4, .int .i64 s5848), (27, .int .i64 s5848), (28, .pointer (some ⟨b4206, 1, none⟩))] w5852 (by kernel_rfl) ?_
          refine W_val (.slice p4194 x4192.Stack.length c4195) w5852 (by kernel_rfl) (E_load (e := 87) (fr := (0, 0)) _ _ false 1 b4206 1 [.int .i64 x4192.Mask, .slice p4194 x4192.Stack.length c4195, .slice p4198 x4192.Queue.Slots.length c4199, .slice p4202 x4192.Queue.Waiting.length c4203] (.slice p4194 x4192.Stack.length c4195) rfl (by kernel_rfl) (by kernel_rfl) (by kernel_rfl) (M5853.blk 0 (b := b4206) (o := .cells ⟨[.int .i64 x4192.Mask, .slice p4194 x4192.Stack.length c4195, .slice p4198 x4192.Queue.Slots.length c4199, .slice p4202 x4192.Queue.Waiting.length c4203]⟩ 87 (0, 0)) (by kernel_rfl))) ?_
          refine W_run 2 [(1, .pointer (some ⟨b4206, 0, none⟩)), (4, .int .i64 s5848), (31, .bool (decide (s5848 < (x4192.Stack.length : Int))))] w5852 (by kernel_rfl) ?_
          refine W_nil ?_
          refine N_then ?_
          rcases gx_bif hm with ⟨hc5859, hm⟩ | ⟨hc5859, hm⟩
          · refine G_cond_t (b := (decide (s5848 < (x4192.Stack.length : Int)))) hc5859 (by kernel_rfl) ?_
            refine G_skip ?_
            refine N_then ?_
            refine G_seq ?_
            refine G_block ?_
            refine G_seq ?_
            refine G_quiet (by kernel_rfl) (by kernel_rfl) M5853 ?_
            refine Z_runs [.pointer (some ⟨b4206, 2, none⟩), .pointer (some ⟨b4206, 2, none⟩)] [(1, .pointer (some ⟨b4206, 0, none⟩)), (4, .int .i64 s5848), (35, .pointer (some ⟨b4206, 2, none⟩))] (fun w_ => by kernel_rfl) (by kernel_rfl) ?_
            refine Z_val (.slice p4198 x4192.Queue.Slots.length c4199) (by kernel_rfl) (fun w_ M_ => (E_load (e := 87) (fr := (0, 0)) _ _ false 1 b4206 2 [.int .i64 x4192.Mask, .slice p4194 x4192.Stack.length c4195, .slice p4198 x4192.Queue.Slots.length c4199, .slice p4202 x4192.Queue.Waiting.length c4203] (.slice p4198 x4192.Queue.Slots.length c4199) rfl (by kernel_rfl) (by kernel_rfl) (by kernel_rfl) (M_.blk 0 (b := b4206) (o := .cells ⟨[.int .i64 x4192.Mask, .slice p4194 x4192.Stack.length c4195, .slice p4198 x4192.Queue.Slots.length c4199, .slice p4202 x4192.Queue.Waiting.length c4203]⟩ 87 (0, 0)) (by kernel_rfl)))) ?_
            refine Z_runs [.pointer (some ⟨b4206, 1, none⟩)] [(1, .pointer (some ⟨b4206, 0, none⟩)), (4, .int .i64 s5848), (36, .slice p4198 x4192.Queue.Slots.length c4199), (37, .pointer (some ⟨b4206, 1, none⟩))] (fun w_ => by kernel_rfl) (by kernel_rfl) ?_
            refine Z_val (.slice p4194 x4192.Stack.length c4195) (by kernel_rfl) (fun w_ M_ => (E_load (e := 87) (fr := (0, 0)) _ _ false 1 b4206 1 [.int .i64 x4192.Mask, .slice p4194 x4192.Stack.length c4195, .slice p4198 x4192.Queue.Slots.length c4199, .slice p4202 x4192.Queue.Waiting.length c4203] (.slice p4194 x4192.Stack.length c4195) rfl (by kernel_rfl) (by kernel_rfl) (by kernel_rfl) (M_.blk 0 (b := b4206) (o := .cells ⟨[.int .i64 x4192.Mask, .slice p4194 x4192.Stack.length c4195, .slice p4198 x4192.Queue.Slots.length c4199, .slice p4202 x4192.Queue.Waiting.length c4203]⟩ 87 (0, 0)) (by kernel_rfl)))) ?_
            refine Z_runs [.int .i64 s5848] [(1, .pointer (some ⟨b4206, 0, none⟩)), (4, .int .i64 s5848), (36, .slice p4198 x4192.Queue.Slots.length c4199), (38, .slice p4194 x4192.Stack.length c4195), (39, .int .i64 s5848)] (fun w_ => by kernel_rfl) (by kernel_rfl) ?_
            obtain ⟨y5860, hy5860, hm⟩ := gx_bind hm
            refine Z_val (elemP p4194 (s5848.toNat * 1)) (by kernel_rfl) (fun w_ M_ => (E_index (E := Gx.encI) _ _ _ x4192.Stack.length c4195 .i64 s5848 1 (y := y5860) rfl (by kernel_rfl) (by kernel_rfl) (by kernel_rfl) (h4196.mem0 M_) rfl hy5860)) ?_
            refine Z_val (.int .i64 y5860) (by kernel_rfl) (fun w_ M_ => (E_loadE (E := Gx.encI) _ _ false 1 s5848 0 (s5848.toNat * 1) y5860 (.int .i64 y5860) rfl (by kernel_rfl) (by kernel_rfl) (by kernel_rfl) (h4196.mem0 M_) hy5860 rfl)) ?_
            obtain ⟨r5861, hr5861, hm⟩ := gx_bind hm
            refine Z_call 117 #[.slice p4198 x4192.Queue.Slots.length c4199, .int .i64 y5860] (.int .i64 r5861) (by kernel_rfl) (fun w_ => by kernel_rfl) (fun w_ M_ => (c_i_priorityIn w_ x4192.Queue.Slots p4198 c4199 (h4200.mem0 M_) y5860 hr5861).mono fun e w2_ h_ => ⟨h_.1, M_.call0 h_.2⟩) ?_
            refine Z_runs [.pointer (some ⟨b4206, 2, none⟩), .pointer (some ⟨b4206, 2, none⟩)] [(1, .pointer (some ⟨b4206, 0, none⟩)), (4, .int .i64 s5848), (42, .int .i64 r5861), (44, .pointer (some ⟨b4206, 2, none⟩))] (fun w_ => by kernel_rfl) (by kernel_rfl) ?_
            refine Z_val (.slice p4198 x4192.Queue.Slots.length c4199) (by kernel_rfl) (fun w_ M_ => (E_load (e := 87) (fr := (0, 0)) _ _ false 1 b4206 2 [.int .i64 x4192.Mask, .slice p4194 x4192.Stack.length c4195, .slice p4198 x4192.Queue.Slots.length c4199, .slice p4202 x4192.Queue.Waiting.length c4203] (.slice p4198 x4192.Queue.Slots.length c4199) rfl (by kernel_rfl) (by kernel_rfl) (by kernel_rfl) (M_.blk 0 (b := b4206) (o := .cells ⟨[.int .i64 x4192.Mask, .slice p4194 x4192.Stack.length c4195, .slice p4198 x4192.Queue.Slots.length c4199, .slice p4202 x4192.Queue.Waiting.length c4203]⟩ 87 (0, 0)) (by kernel_rfl)))) ?_
            refine Z_runs [.pointer (some ⟨b4206, 1, none⟩)] [(1, .pointer (some ⟨b4206, 0, none⟩)), (4, .int .i64 s5848), (42, .int .i64 r5861), (45, .slice p4198 x4192.Queue.Slots.length c4199), (46, .pointer (some ⟨b4206, 1, none⟩))] (fun w_ => by kernel_rfl) (by kernel_rfl) ?_
            refine Z_val (.slice p4194 x4192.Stack.length c4195) (by kernel_rfl) (fun w_ M_ => (E_load (e := 87) (fr := (0, 0)) _ _ false 1 b4206 1 [.int .i64 x4192.Mask, .slice p4194 x4192.Stack.length c4195, .slice p4198 x4192.Queue.Slots.length c4199, .slice p4202 x4192.Queue.Waiting.length c4203] (.slice p4194 x4192.Stack.length c4195) rfl (by kernel_rfl) (by kernel_rfl) (by kernel_rfl) (M_.blk 0 (b := b4206) (o := .cells ⟨[.int .i64 x4192.Mask, .slice p4194 x4192.Stack.length c4195, .slice p4198 x4192.Queue.Slots.length c4199, .slice p4202 x4192.Queue.Waiting.length c4203]⟩ 87 (0, 0)) (by kernel_rfl)))) ?_
            refine Z_runs [.int .i64 s5848, .int .i64 (w64 (s5848 - 1))] [(1, .pointer (some ⟨b4206, 0, none⟩)), (4, .int .i64 s5848), (42, .int .i64 r5861), (45, .slice p4198 x4192.Queue.Slots.length c4199), (47, .slice p4194 x4192.Stack.length c4195), (49, .int .i64 (w64 (s5848 - 1)))] (fun w_ => by kernel_rfl) (by kernel_rfl) ?_
            obtain ⟨y5865, hy5865, hm⟩ := gx_bind hm
            refine Z_val (elemP p4194 ((w64 (s5848 - 1)).toNat * 1)) (by kernel_rfl) (fun w_ M_ => (E_index (E := Gx.encI) _ _ _ x4192.Stack.length c4195 .i64 (w64 (s5848 - 1)) 1 (y := y5865) rfl (by kernel_rfl) (by kernel_rfl) (by kernel_rfl) (h4196.mem0 M_) rfl hy5865)) ?_
            refine Z_val (.int .i64 y5865) (by kernel_rfl) (fun w_ M_ => (E_loadE (E := Gx.encI) _ _ false 1 (w64 (s5848 - 1)) 0 ((w64 (s5848 - 1)).toNat * 1) y5865 (.int .i64 y5865) rfl (by kernel_rfl) (by kernel_rfl) (by kernel_rfl) (h4196.mem0 M_) hy5865 rfl)) ?_
            obtain ⟨r5866, hr5866, hm⟩ := gx_bind hm
            refine Z_call 117 #[.slice p4198 x4192.Queue.Slots.length c4199, .int .i64 y5865] (.int .i64 r5866) (by kernel_rfl) (fun w_ => by kernel_rfl) (fun w_ M_ => (c_i_priorityIn w_ x4192.Queue.Slots p4198 c4199 (h4200.mem0 M_) y5865 hr5866).mono fun e w2_ h_ => ⟨h_.1, M_.call0 h_.2⟩) ?_
            refine Z_runs [.bool (decide (r5861 ≥ r5866))] [(1, .pointer (some ⟨b4206, 0, none⟩)), (4, .int .i64 s5848), (53, .bool (decide (r5861 ≥ r5866)))] (fun w_ => by kernel_rfl) (by kernel_rfl) ?_
            refine Z_end fun w5870 M5871 => ?_
            refine N_then ?_
            rcases gx_bif hm with ⟨hc5872, hm⟩ | ⟨hc5872, hm⟩
            · refine G_cond_t (b := (decide (r5861 ≥ r5866))) hc5872 (by kernel_rfl) ?_
              refine G_seq ?_
              refine G_region ?_
              refine W_run 1 [(2, .bool false)] w5870 (by kernel_rfl) ?_
              refine W_nil ?_
              refine N_then ?_
              refine G_ret ?_
              refine N_block_ret ?_
              refine N_then_ret ?_
              refine N_then_ret ?_
              obtain rfl := Option.some.inj hm
              obtain rfl := hout5850 _ rfl
              have hm := hmo5857; simp only [Sum.elim_inr] at hm
              refine N_block_ret ?_
              refine N_meet_ret ?_
              refine N_then_ret ?_
              obtain rfl := Option.some.inj hm
              refine N_ret [.bool false] (RVs_cons (RV_tmp (by kernel_rfl)) RVs_nil) ?_
              exact ⟨rfl, M5871.pick [] (by kernel_rfl)⟩
            · refine G_cond_f (b := (decide (r5861 ≥ r5866))) hc5872 (by kernel_rfl) ?_
              refine G_skip ?_
              refine N_block ?_
              refine N_then ?_
              refine G_region ?_
              refine W_run 3 [(1, .pointer (some ⟨b4206, 0, none⟩)), (4, .int .i64 (w64 (s5848 + 1)))] w5870 (by kernel_rfl) ?_
              refine W_nil ?_
              obtain rfl := Option.some.inj hm
              exact N_loop fun a ha => ⟨_, rfl, M5871.pick [0] (by kernel_rfl), ha.sub (by kernel_rfl)⟩
          · refine G_cond_f (b := (decide (s5848 < (x4192.Stack.length : Int)))) hc5859 (by kernel_rfl) ?_
            refine G_exit ?_
            refine N_then_exit ?_
            refine N_then_exit ?_
            refine N_block_eq ?_
            obtain rfl := Option.some.inj hm
            obtain rfl := hout5850 _ rfl
            exact N_meet fun a ha => ⟨_, rfl, M5853.pick [] (by kernel_rfl), ha.sub (by kernel_rfl)⟩
        · intro a5873 w5874 ⟨o5858, hout_, M5875, hS5876⟩
          refine N_use hS5876 ?_
          subst hout_
          have hm := hmo5857; simp only [Sum.elim_inl] at hm
          refine N_then ?_
          refine G_seq ?_
          refine G_region ?_
          refine W_run 1 [(2, .bool true)] w5874 (by kernel_rfl) ?_
          refine W_nil ?_
          refine N_then ?_
          refine G_ret ?_
          obtain rfl := Option.some.inj hm
          refine N_ret [.bool true] (RVs_cons (RV_tmp (by kernel_rfl)) RVs_nil) ?_
          exact ⟨rfl, M5875.pick [] (by kernel_rfl)⟩
theorem c_slices_Clone_118 (w : World) (x5913 : List Waiter) (p5915 : Option Addr) (c5916 : Nat) (h5917 : rdS encWaiter w x5913 p5915 c5916) {r : (List Waiter)} (hm : M.slices_Clone_118 x5913 = some r) :
    Calls Tryz.prog 118 #[.slice p5915 x5913.length c5916] w fun e w' => ∃ (p5919 : Option Addr) (c5920 : Nat) (sg5921 : Seg), e = .returned (.slice p5919 r.length c5920) ∧ ownS encWaiter r p5919 c5920 sg5921 ∧ Mem [] w w' [sg5921] := by
  unfold M.slices_Clone_118 at hm
  cases p5915 with
  | none =>
    have hx : x5913 = [] := by rcases h5917.2 with hh | ⟨_, _, _, _, _, hp, _⟩; exact hh; cases hp
    subst hx
    have hm : some ([] : List Waiter) = some r := by simpa [gxApp] using hm
    refine C_enter Tryz.func118 rfl (by kernel_rfl) ?_
    have M0 := Mem.refl [] w
    refine G_seq ?_
    refine G_region ?_
    refine W_run 1 [(0, .slice none ([] : List Waiter).length c5916)] w (by kernel_rfl) ?_
    refine W_nil ?_
    refine N_then ?_
    refine G_seq ?_
    refine G_seq ?_
    refine G_region ?_
    refine W_run 2 [(0, .slice none ([] : List Waiter).length c5916), (4, .bool true)] w (by kernel_rfl) ?_
    refine W_nil ?_
    refine N_then ?_
    refine G_cond_t rfl (by kernel_rfl) ?_
    refine G_seq ?_
    refine G_region ?_
    refine W_run 1 [(2, .slice none 0 0)] w (by kernel_rfl) ?_
    refine W_nil ?_
    refine N_then ?_
    refine G_ret ?_
    refine N_then_ret ?_
    obtain rfl := Option.some.inj hm
    refine N_ret [.slice none 0 0] (RVs_cons (RV_tmp (by kernel_rfl)) RVs_nil) ?_
    exact ⟨none, 0, [], rfl, ownS_nil, M0.pick [100000] (by kernel_rfl)⟩
  | some a_ =>
    refine C_enter Tryz.func118 rfl (by kernel_rfl) ?_
    have M0 := Mem.refl [] w
    refine G_seq ?_
    refine G_region ?_
    refine W_run 1 [(0, .slice (some a_) x5913.length c5916)] w (by kernel_rfl) ?_
    refine W_nil ?_
    refine N_then ?_
    refine G_seq ?_
    refine G_seq ?_
    refine G_region ?_
    refine W_run 2 [(0, .slice (some a_) x5913.length c5916), (4, .bool false)] w (by kernel_rfl) ?_
    refine W_nil ?_
    refine N_then ?_
    refine G_cond_f rfl (by kernel_rfl) ?_
    refine G_skip ?_
    refine N_then ?_
    refine G_seq ?_
    refine G_region ?_
    refine W_lit (E := encWaiter) ([] : List Waiter) 0 [] 142 M0 (by kernel_rfl) (by kernel_rfl) (by kernel_rfl) (by kernel_rfl) (by kernel_rfl) ?_
    intro p5927 c5928 sg5929 w5930 ho5931 M5932
    refine W_run 1 [(5, .slice p5927 ([] : List Waiter).length c5928), (6, .slice (some a_) x5913.length c5916)] w5930 (by kernel_rfl) ?_
    obtain ⟨ap5934, hap5934, hm⟩ := gx_bind hm
    refine W_append (E := encWaiter) _ _ _ 16 [.int .i64 0, .int .i64 0] 0 c5916 M5932 ho5931 (by kernel_rfl) (by kernel_rfl) (by kernel_rfl) rfl (by kernel_rfl) (by kernel_rfl) (by kernel_rfl) (by kernel_rfl) (by kernel_rfl) (by kernel_rfl) (h5917.mem0 M5932) hap5934 ?_
    intro p5935 c5936 sg5937 w5938 ho5939 M5940
    refine W_run 1 [(2, .slice p5935 ap5934.length c5936)] w5938 (by kernel_rfl) ?_
    refine W_nil ?_
    refine N_then ?_
    refine G_ret ?_
    obtain rfl := Option.some.inj hm
    refine N_ret [.slice p5935 ap5934.length c5936] (RVs_cons (RV_tmp (by kernel_rfl)) RVs_nil) ?_
    exact ⟨p5935, c5936, sg5937, rfl, ho5939, M5940.pick [0] (by kernel_rfl)⟩
theorem c_i_fitsRoutes_1 (w : World) (x6200 : Waiter) (x6201 : List Route) (p6203 : Option Addr) (c6204 : Nat) (h6205 : rdS encRoute w x6201 p6203 c6204) (b6206 : Nat) (hb6207 : w.heap[b6206]? = some (.cells ⟨[.slice p6203 x6201.length c6204]⟩ 29 (0, 0))) (x6209 : Int) (b6210 : Nat) (hb6211 : w.heap[b6210]? = some (.cells ⟨[.int .i64 x6209]⟩ 3 (0, 0))) {r : Bool} (hm : M.i_fitsRoutes_1 x6200 x6201 x6209 = some r) :
    Calls Tryz.prog 121 #[.agg #[.int .i64 x6200.Irq, .int .i64 x6200.Priority], .pointer (some ⟨b6206, 0, none⟩), .pointer (some ⟨b6210, 0, none⟩)] w fun e w' => e = .returned (.bool r) ∧ Mem [] w w' [] := by
  unfold M.i_fitsRoutes_1 at hm
  refine C_enter Tryz.func121 rfl (by kernel_rfl) ?_
  have M0 := Mem.refl [] w
  refine G_seq ?_
  refine G_region ?_
  refine W_new (fun b => .pointer (some ⟨b, 0, none⟩)) (.cells ⟨[.int .i64 x6200.Irq, .int .i64 x6200.Priority]⟩ 142 (0, 0)) M0 rfl (by kernel_rfl) (by kernel_rfl) ?_
  intro b6214 w6215 M6216
  refine W_run 1 [(1, .pointer (some ⟨b6206, 0, none⟩)), (2, .pointer (some ⟨b6210, 0, none⟩)), (3, .pointer (some ⟨b6214, 0, none⟩))] w6215 (by kernel_rfl) ?_
  refine W_nil ?_
  refine N_then ?_
  refine G_seq ?_
  refine G_quiet (by kernel_rfl) (by kernel_rfl) M6216 ?_
  refine Z_val (.slice p6203 x6201.length c6204) (by kernel_rfl) (fun w_ M_ => (E_load (e := 29) (fr := (0, 0)) _ _ false 1 b6206 0 [.slice p6203 x6201.length c6204] (.slice p6203 x6201.length c6204) rfl (by kernel_rfl) (by kernel_rfl) (by kernel_rfl) (M_.ro hb6207))) ?_
  refine Z_runs [.pointer (some ⟨b6214, 0, none⟩)] [(2, .pointer (some ⟨b6210, 0, none⟩)), (3, .pointer (some ⟨b6214, 0, none⟩)), (5, .slice p6203 x6201.length c6204), (6, .pointer (some ⟨b6214, 0, none⟩))] (fun w_ => by kernel_rfl) (by kernel_rfl) ?_
  refine Z_val (.int .i64 x6200.Irq) (by kernel_rfl) (fun w_ M_ => (E_load (e := 142) (fr := (0, 0)) _ _ false 1 b6214 0 [.int .i64 x6200.Irq, .int .i64 x6200.Priority] (.int .i64 x6200.Irq) rfl (by kernel_rfl) (by kernel_rfl) (by kernel_rfl) (M_.blk 0 (b := b6214) (o := .cells ⟨[.int .i64 x6200.Irq, .int .i64 x6200.Priority]⟩ 142 (0, 0)) (by kernel_rfl)))) ?_
  obtain ⟨y6217, hy6217, hm⟩ := gx_bind hm
  refine Z_val (elemP p6203 (x6200.Irq.toNat * 2)) (by kernel_rfl) (fun w_ M_ => (E_index (E := encRoute) _ _ _ x6201.length c6204 .i64 x6200.Irq 2 (y := y6217) rfl (by kernel_rfl) (by kernel_rfl) (by kernel_rfl) (h6205.mem0 M_) rfl hy6217)) ?_
  refine Z_val (.agg #[.int .i64 y6217.Priority, .int .i64 y6217.Target]) (by kernel_rfl) (fun w_ M_ => (E_loadE (E := encRoute) _ _ true 2 x6200.Irq 0 (x6200.Irq.toNat * 2) y6217 (.agg #[.int .i64 y6217.Priority, .int .i64 y6217.Target]) rfl (by kernel_rfl) (by kernel_rfl) (by kernel_rfl) (h6205.mem0 M_) hy6217 rfl)) ?_
  refine Z_runs [.pointer (some ⟨b6214, 1, none⟩)] [(2, .pointer (some ⟨b6210, 0, none⟩)), (9, .agg #[.int .i64 y6217.Priority, .int .i64 y6217.Target]), (10, .pointer (some ⟨b6214, 1, none⟩))] (fun w_ => by kernel_rfl) (by kernel_rfl) ?_
  refine Z_val (.int .i64 x6200.Priority) (by kernel_rfl) (fun w_ M_ => (E_load (e := 142) (fr := (0, 0)) _ _ false 1 b6214 1 [.int .i64 x6200.Irq, .int .i64 x6200.Priority] (.int .i64 x6200.Priority) rfl (by kernel_rfl) (by kernel_rfl) (by kernel_rfl) (M_.blk 0 (b := b6214) (o := .cells ⟨[.int .i64 x6200.Irq, .int .i64 x6200.Priority]⟩ 142 (0, 0)) (by kernel_rfl)))) ?_
  refine Z_val (.int .i64 x6209) (by kernel_rfl) (fun w_ M_ => (E_load (e := 3) (fr := (0, 0)) _ _ false 1 b6210 0 [.int .i64 x6209] (.int .i64 x6209) rfl (by kernel_rfl) (by kernel_rfl) (by kernel_rfl) (M_.ro hb6211))) ?_
  refine Z_runs [.agg #[.int .i64 x6200.Priority, .int .i64 x6209]] [(9, .agg #[.int .i64 y6217.Priority, .int .i64 y6217.Target]), (13, .agg #[.int .i64 x6200.Priority, .int .i64 x6209])] (fun w_ => by kernel_rfl) (by kernel_rfl) ?_
  refine Z_val (.bool (!((y6217.Priority == x6200.Priority) && ((y6217.Target == x6209) && true)))) (by kernel_rfl) (fun w_ M_ => (E_neqAgg _ _ _ _ [.int .i64 y6217.Priority, .int .i64 y6217.Target] [.int .i64 x6200.Priority, .int .i64 x6209] ((y6217.Priority == x6200.Priority) && ((y6217.Target == x6209) && true)) rfl (by kernel_rfl) (by kernel_rfl) (by kernel_rfl) (by kernel_rfl) (by kernel_rfl) (by kernel_rfl))) ?_
  refine Z_runs [.bool (!((y6217.Priority == x6200.Priority) && ((y6217.Target == x6209) && true)))] [(4, .bool (!((y6217.Priority == x6200.Priority) && ((y6217.Target == x6209) && true))))] (fun w_ => by kernel_rfl) (by kernel_rfl) ?_
  refine Z_end fun w6218 M6219 => ?_
  refine N_then ?_
  refine G_ret ?_
  obtain rfl := Option.some.inj hm
  refine N_ret [.bool (!((y6217.Priority == x6200.Priority) && ((y6217.Target == x6209) && true)))] (RVs_cons (RV_tmp (by kernel_rfl)) RVs_nil) ?_
  exact ⟨rfl, M6219.pick [] (by kernel_rfl)⟩
theorem c_slices_IndexFunc_166__i_fitsRoutes_1 (w : World) (x6181 : List Waiter) (p6183 : Option Addr) (c6184 : Nat) (h6185 : rdS encWaiter w x6181 p6183 c6184) (x6186 : List Route) (p6188 : Option Addr) (c6189 : Nat) (h6190 : rdS encRoute w x6186 p6188 c6189) (b6191 : Nat) (hb6192 : w.heap[b6191]? = some (.cells ⟨[.slice p6188 x6186.length c6189]⟩ 29 (0, 0))) (x6194 : Int) (b6195 : Nat) (hb6196 : w.heap[b6195]? = some (.cells ⟨[.int .i64 x6194]⟩ 3 (0, 0))) {r : Int} (hm : M.slices_IndexFunc_166__i_fitsRoutes_1 x6181 x6186 x6194 = some r) :
    Calls Tryz.prog 166 #[.slice p6183 x6181.length c6184, .func (.func 121) #[] #[.pointer (some ⟨b6191, 0, none⟩), .pointer (some ⟨b6195, 0, none⟩)]] w fun e w' => e = .returned (.int .i64 r) ∧ Mem [] w w' [] := by
  unfold M.slices_IndexFunc_166__i_fitsRoutes_1 at hm
  refine C_enter Tryz.func166 rfl (by kernel_rfl) ?_
  have M0 := Mem.refl [] w
  refine G_seq ?_
  refine G_region ?_
  refine W_run 1 [(0, .slice p6183 x6181.length c6184), (1, .func (.func 121) #[] #[.pointer (some ⟨b6191, 0, none⟩), .pointer (some ⟨b6195, 0, none⟩)])] w (by kernel_rfl) ?_
  refine W_nil ?_
  refine N_then ?_
  refine G_seq ?_
  refine G_seq ?_
  refine G_region ?_
  refine W_run 3 [(0, .slice p6183 x6181.length c6184), (1, .func (.func 121) #[] #[.pointer (some ⟨b6191, 0, none⟩), .pointer (some ⟨b6195, 0, none⟩)]), (7, .int .i64 (x6181.length : Int)), (8, .int .i64 0)] w (by kernel_rfl) ?_
  refine W_nil ?_
  refine N_then ?_
  obtain ⟨out6239, hw6240, hmo6241⟩ := gx_bind hm
  refine G_meet (fun a w' => ∃ (o6242 : Unit), out6239 = .inl o6242 ∧ Mem [] w w' [] ∧ Sat Tryz.f166.ntmps [] a) ?_ ?_
  · refine G_block ?_
    refine G_while (σ := Int) (ρ := (Unit) ⊕ (Int)) (fun s6232 a w' => Mem [] w w' [] ∧ Sat Tryz.f166.ntmps [(0, .slice p6183 x6181.length c6184), (1, .func (.func 121) #[] #[.pointer (some ⟨b6191, 0, none⟩), .pointer (some ⟨b6195, 0, none⟩)]), (7, .int .i64 (x6181.length : Int)), (8, .int .i64 s6232)] a) hw6240 (fun a ha => ⟨M0.pick [] (by kernel_rfl), ha.sub (by kernel_rfl)⟩) ?_
    clear hm
    intro s6232 x6233 hm hout6234 a6235 w6236 ⟨M6237, hS6238⟩
    refine G_use hS6238 ?_
    refine G_seq ?_
    refine G_region ?_
    refine W_run 1 [(0, .slice p6183 x6181.length c6184), (1, .func (.func 121) #[] #[.pointer (some ⟨b6191, 0, none⟩), .pointer (some ⟨b6195, 0, none⟩)]), (7, .int .i64 (x6181.length : Int)), (8, .int .i64 s6232), (9, .bool (decide (s6232 < (x6181.length : Int))))] w6236 (by kernel_rfl) ?_
    refine W_nil ?_
    refine N_then ?_
    refine G_seq ?_
    rcases gx_bif hm with ⟨hc6243, hm⟩ | ⟨hc6243, hm⟩
    · refine G_cond_t (b := (decide (s6232 < (x6181.length : Int)))) hc6243 (by kernel_rfl) ?_
      refine G_skip ?_
      refine N_then ?_
      refine G_seq ?_
      refine G_block ?_
      refine G_seq ?_
      refine G_region ?_
      refine W_run 2 [(0, .slice p6183 x6181.length c6184), (1, .func (.func 121) #[] #[.pointer (some ⟨b6191, 0, none⟩), .pointer (some ⟨b6195, 0, none⟩)]), (5, .int .i64 s6232), (7, .int .i64 (x6181.length : Int)), (8, .int .i64 s6232)] w6236 (by kernel_rfl) ?_
      refine W_nil ?_
      refine N_then ?_
      refine G_seq ?_
      refine G_region ?_
      refine W_run 3 [(0, .slice p6183 x6181.length c6184), (1, .func (.func 121) #[] #[.pointer (some ⟨b6191, 0, none⟩), .pointer (some ⟨b6195, 0, none⟩)]), (5, .int .i64 s6232), (7, .int .i64 (x6181.length : Int)), (8, .int .i64 s6232), (11, .func (.func 121) #[] #[.pointer (some ⟨b6191, 0, none⟩), .pointer (some ⟨b6195, 0, none⟩)]), (12, .slice p6183 x6181.length c6184), (13, .int .i64 s6232)] w6236 (by kernel_rfl) ?_
      obtain ⟨y6244, hy6244, hm⟩ := gx_bind hm
      refine W_val (elemP p6183 (s6232.toNat * 2)) w6236 (by kernel_rfl) (E_index (E := encWaiter) _ _ _ x6181.length c6184 .i64 s6232 2 (y := y6244) rfl (by kernel_rfl) (by kernel_rfl) (by kernel_rfl) (h6185.mem0 M6237) rfl hy6244) ?_
      refine W_val (.agg #[.int .i64 y6244.Irq, .int .i64 y6244.Priority]) w6236 (by kernel_rfl) (E_loadE (E := encWaiter) _ _ true 2 s6232 0 (s6232.toNat * 2) y6244 (.agg #[.int .i64 y6244.Irq, .int .i64 y6244.Priority]) rfl (by kernel_rfl) (by kernel_rfl) (by kernel_rfl) (h6185.mem0 M6237) hy6244 rfl) ?_
      obtain ⟨r6245, hr6245, hm⟩ := gx_bind hm
      refine W_call 121 #[.agg #[.int .i64 y6244.Irq, .int .i64 y6244.Priority], .pointer (some ⟨b6191, 0, none⟩), .pointer (some ⟨b6195, 0, none⟩)] (by kernel_rfl) (by kernel_rfl) ?_
      refine (c_i_fitsRoutes_1 w6236 y6244 x6186 p6188 c6189 (h6190.mem0 M6237) b6191 (M6237.ro hb6192) x6194 b6195 (M6237.ro hb6196) hr6245).mono ?_
      rintro e_ w6246 ⟨rfl, K6247⟩
      have M6248 := M6237.call0 K6247
      refine ⟨_, rfl, ?_⟩
      refine W_nil ?_
      refine N_then ?_
      rcases gx_bif hm with ⟨hc6249, hm⟩ | ⟨hc6249, hm⟩
      · refine G_cond_t (b := r6245) hc6249 (by kernel_rfl) ?_
        refine G_seq ?_
        refine G_region ?_
        refine W_run 2 [(4, .int .i64 s6232)] w6246 (by kernel_rfl) ?_
        refine W_nil ?_
        refine N_then ?_
        refine G_ret ?_
        refine N_block_ret ?_
        refine N_then_ret ?_
        refine N_then_ret ?_
        obtain rfl := Option.some.inj hm
        obtain rfl := hout6234 _ rfl
        have hm := hmo6241; simp only [Sum.elim_inr] at hm
        refine N_block_ret ?_
        refine N_meet_ret ?_
        refine N_then_ret ?_
        obtain rfl := Option.some.inj hm
        refine N_ret [.int .i64 s6232] (RVs_cons (RV_tmp (by kernel_rfl)) RVs_nil) ?_
        exact ⟨rfl, M6248.pick [] (by kernel_rfl)⟩
      · refine G_cond_f (b := r6245) hc6249 (by kernel_rfl) ?_
        refine G_skip ?_
        refine N_block ?_
        refine N_then ?_
        refine G_region ?_
        refine W_run 2 [(0, .slice p6183 x6181.length c6184), (1, .func (.func 121) #[] #[.pointer (some ⟨b6191, 0, none⟩), .pointer (some ⟨b6195, 0, none⟩)]), (7, .int .i64 (x6181.length : Int)), (8, .int .i64 (w64 (s6232 + 1)))] w6246 (by kernel_rfl) ?_
        refine W_nil ?_
        obtain rfl := Option.some.inj hm
        exact N_loop fun a ha => ⟨_, rfl, M6248.pick [] (by kernel_rfl), ha.sub (by kernel_rfl)⟩
    · refine G_cond_f (b := (decide (s6232 < (x6181.length : Int)))) hc6243 (by kernel_rfl) ?_
      refine G_exit ?_
      refine N_then_exit ?_
      refine N_then_exit ?_
      refine N_block_eq ?_
      obtain rfl := Option.some.inj hm
      obtain rfl := hout6234 _ rfl
      exact N_meet fun a ha => ⟨_, rfl, M6237.pick [] (by kernel_rfl), ha.sub (by kernel_rfl)⟩
  · intro a6250 w6251 ⟨o6242, hout_, M6252, hS6253⟩
    refine N_use hS6253 ?_
    subst hout_
    have hm := hmo6241; simp only [Sum.elim_inl] at hm
    refine N_then ?_
    refine G_seq ?_
    refine G_region ?_
    refine W_run 1 [(4, .int .i64 (-1))] w6251 (by kernel_rfl) ?_
    refine W_nil ?_
    refine N_then ?_
    refine G_ret ?_
    obtain rfl := Option.some.inj hm
    refine N_ret [.int .i64 (-1)] (RVs_cons (RV_tmp (by kernel_rfl)) RVs_nil) ?_
    exact ⟨rfl, M6252.pick [] (by kernel_rfl)⟩
theorem c_slices_ContainsFunc_120__i_fitsRoutes_1 (w : World) (x6164 : List Waiter) (p6166 : Option Addr) (c6167 : Nat) (h6168 : rdS encWaiter w x6164 p6166 c6167) (x6169 : List Route) (p6171 : Option Addr) (c6172 : Nat) (h6173 : rdS encRoute w x6169 p6171 c6172) (b6174 : Nat) (hb6175 : w.heap[b6174]? = some (.cells ⟨[.slice p6171 x6169.length c6172]⟩ 29 (0, 0))) (x6177 : Int) (b6178 : Nat) (hb6179 : w.heap[b6178]? = some (.cells ⟨[.int .i64 x6177]⟩ 3 (0, 0))) {r : Bool} (hm : M.slices_ContainsFunc_120__i_fitsRoutes_1 x6164 x6169 x6177 = some r) :
    Calls Tryz.prog 120 #[.slice p6166 x6164.length c6167, .func (.func 121) #[] #[.pointer (some ⟨b6174, 0, none⟩), .pointer (some ⟨b6178, 0, none⟩)]] w fun e w' => e = .returned (.bool r) ∧ Mem [] w w' [] := by
  unfold M.slices_ContainsFunc_120__i_fitsRoutes_1 at hm
  refine C_enter Tryz.func120 rfl (by kernel_rfl) ?_
  have M0 := Mem.refl [] w
  refine G_seq ?_
  refine G_region ?_
  refine W_run 1 [(0, .slice p6166 x6164.length c6167), (1, .func (.func 121) #[] #[.pointer (some ⟨b6174, 0, none⟩), .pointer (some ⟨b6178, 0, none⟩)])] w (by kernel_rfl) ?_
  refine W_nil ?_
  refine N_then ?_
  refine G_seq ?_
  refine G_region ?_
  refine W_run 2 [(5, .slice p6166 x6164.length c6167), (6, .func (.func 121) #[] #[.pointer (some ⟨b6174, 0, none⟩), .pointer (some ⟨b6178, 0, none⟩)])] w (by kernel_rfl) ?_
  obtain ⟨r6254, hr6254, hm⟩ := gx_bind hm
  refine W_call 166 #[.slice p6166 x6164.length c6167, .func (.func 121) #[] #[.pointer (some ⟨b6174, 0, none⟩), .pointer (some ⟨b6178, 0, none⟩)]] (by kernel_rfl) (by kernel_rfl) ?_
  refine (c_slices_IndexFunc_166__i_fitsRoutes_1 w x6164 p6166 c6167 (h6168.mem0 M0) x6169 p6171 c6172 (h6173.mem0 M0) b6174 (M0.ro hb6175) x6177 b6178 (M0.ro hb6179) hr6254).mono ?_
  rintro e_ w6255 ⟨rfl, K6256⟩
  have M6257 := M0.call0 K6256
  refine ⟨_, rfl, ?_⟩
  refine W_run 2 [(4, .bool (decide (r6254 ≥ 0)))] w6255 (by kernel_rfl) ?_
  refine W_nil ?_
  refine N_then ?_
  refine G_ret ?_
  obtain rfl := Option.some.inj hm
  refine N_ret [.bool (decide (r6254 ≥ 0))] (RVs_cons (RV_tmp (by kernel_rfl)) RVs_nil) ?_
  exact ⟨rfl, M6257.pick [] (by kernel_rfl)⟩
theorem c_i_fitsRoutes (w : World) (x5882 : List Route) (p5884 : Option Addr) (c5885 : Nat) (h5886 : rdS encRoute w x5882 p5884 c5885) (x5887 : Int) (x5888 : Interface) (p5890 : Option Addr) (c5891 : Nat) (h5892 : rdS Gx.encI w x5888.Stack p5890 c5891) (p5894 : Option Addr) (c5895 : Nat) (h5896 : rdS encSlot w x5888.Queue.Slots p5894 c5895) (p5898 : Option Addr) (c5899 : Nat) (h5900 : rdS encWaiter w x5888.Queue.Waiting p5898 c5899) {r : Bool} (hm : M.i_fitsRoutes x5882 x5887 x5888 = some r) :
    Calls Tryz.prog 60 #[.slice p5884 x5882.length c5885, .int .i64 x5887, .agg #[.int .i64 x5888.Mask, .slice p5890 x5888.Stack.length c5891, .slice p5894 x5888.Queue.Slots.length c5895, .slice p5898 x5888.Queue.Waiting.length c5899]] w fun e w' => e = .returned (.bool r) ∧ Mem [] w w' [] := by
  unfold M.i_fitsRoutes at hm
  refine C_enter Tryz.func60 rfl (by kernel_rfl) ?_
  have M0 := Mem.refl [] w
  refine G_seq ?_
  refine G_region ?_
  refine W_new (fun b => .pointer (some ⟨b, 0, none⟩)) (.cells ⟨[.slice p5884 x5882.length c5885]⟩ 29 (0, 0)) M0 rfl (by kernel_rfl) (by kernel_rfl) ?_
  intro b5902 w5903 M5904
  refine W_new (fun b => .pointer (some ⟨b, 0, none⟩)) (.cells ⟨[.int .i64 x5887]⟩ 3 (0, 0)) M5904 rfl (by kernel_rfl) (by kernel_rfl) ?_
  intro b5906 w5907 M5908
  refine W_new (fun b => .pointer (some ⟨b, 0, none⟩)) (.cells ⟨[.int .i64 x5888.Mask, .slice p5890 x5888.Stack.length c5891, .slice p5894 x5888.Queue.Slots.length c5895, .slice p5898 x5888.Queue.Waiting.length c5899]⟩ 87 (0, 0)) M5908 rfl (by kernel_rfl) (by kernel_rfl) ?_
  intro b5910 w5911 M5912
  refine W_run 1 [(3, .pointer (some ⟨b5902, 0, none⟩)), (4, .pointer (some ⟨b5906, 0, none⟩)), (5, .pointer (some ⟨b5910, 0, none⟩))] w5911 (by kernel_rfl) ?_
  refine W_nil ?_
  refine N_then ?_
  refine G_seq ?_
  refine G_region ?_
  refine W_run 2 [(3, .pointer (some ⟨b5902, 0, none⟩)), (4, .pointer (some ⟨b5906, 0, none⟩)), (5, .pointer (some ⟨b5910, 0, none⟩)), (11, .pointer (some ⟨b5910, 3, none⟩))] w5911 (by kernel_rfl) ?_
  refine W_val (.slice p5898 x5888.Queue.Waiting.length c5899) w5911 (by kernel_rfl) (E_load (e := 87) (fr := (0, 0)) _ _ false 1 b5910 3 [.int .i64 x5888.Mask, .slice p5890 x5888.Stack.length c5891, .slice p5894 x5888.Queue.Slots.length c5895, .slice p5898 x5888.Queue.Waiting.length c5899] (.slice p5898 x5888.Queue.Waiting.length c5899) rfl (by kernel_rfl) (by kernel_rfl) (by kernel_rfl) (M5912.blk 2 (b := b5910) (o := .cells ⟨[.int .i64 x5888.Mask, .slice p5890 x5888.Stack.length c5891, .slice p5894 x5888.Queue.Slots.length c5895, .slice p5898 x5888.Queue.Waiting.length c5899]⟩ 87 (0, 0)) (by kernel_rfl))) ?_
  obtain ⟨r5942, hr5942, hm⟩ := gx_bind hm
  refine W_call 118 #[.slice p5898 x5888.Queue.Waiting.length c5899] (by kernel_rfl) (by kernel_rfl) ?_
  refine (c_slices_Clone_118 w5911 x5888.Queue.Waiting p5898 c5899 (h5900.mem0 M5912) hr5942).mono ?_
  rintro e_ w5948 ⟨p5944, c5945, sg5946, rfl, ho5947, K5949⟩
  have M5950 := M5912.call K5949
  refine ⟨_, rfl, ?_⟩
  refine W_run 1 [(3, .pointer (some ⟨b5902, 0, none⟩)), (4, .pointer (some ⟨b5906, 0, none⟩)), (5, .pointer (some ⟨b5910, 0, none⟩)), (7, .slice p5944 r5942.length c5945)] w5948 (by kernel_rfl) ?_
  refine W_nil ?_
  refine N_then ?_
  refine G_seq ?_
  refine G_seq ?_
  refine G_region ?_
  refine W_run 2 [(3, .pointer (some ⟨b5902, 0, none⟩)), (4, .pointer (some ⟨b5906, 0, none⟩)), (7, .slice p5944 r5942.length c5945), (15, .pointer (some ⟨b5910, 2, none⟩))] w5948 (by kernel_rfl) ?_
  refine W_val (.slice p5894 x5888.Queue.Slots.length c5895) w5948 (by kernel_rfl) (E_load (e := 87) (fr := (0, 0)) _ _ false 1 b5910 2 [.int .i64 x5888.Mask, .slice p5890 x5888.Stack.length c5891, .slice p5894 x5888.Queue.Slots.length c5895, .slice p5898 x5888.Queue.Waiting.length c5899] (.slice p5894 x5888.Queue.Slots.length c5895) rfl (by kernel_rfl) (by kernel_rfl) (by kernel_rfl) (M5950.blk 2 (b := b5910) (o := .cells ⟨[.int .i64 x5888.Mask, .slice p5890 x5888.Stack.length c5891, .slice p5894 x5888.Queue.Slots.length c5895, .slice p5898 x5888.Queue.Waiting.length c5899]⟩ 87 (0, 0)) (by kernel_rfl))) ?_
  refine W_run 2 [(3, .pointer (some ⟨b5902, 0, none⟩)), (4, .pointer (some ⟨b5906, 0, none⟩)), (7, .slice p5944 r5942.length c5945), (16, .slice p5894 x5888.Queue.Slots.length c5895), (17, .int .i64 (x5888.Queue.Slots.length : Int)), (18, .int .i64 0)] w5948 (by kernel_rfl) ?_
  refine W_nil ?_
  refine N_then ?_
  obtain ⟨out6085, hw6086, hmo6087⟩ := gx_bind hm
  refine G_meet (fun a w' => ∃ (o6093 : List Waiter), ∃ (p6094 : Option Addr), ∃ (c6095 : Nat), ∃ (sg6096 : Seg), ownS encWaiter o6093 p6094 c6095 sg6096 ∧ out6085 = .inl o6093 ∧ Mem [] w w' [[(b5902, .cells ⟨[.slice p5884 x5882.length c5885]⟩ 29 (0, 0))], [(b5906, .cells ⟨[.int .i64 x5887]⟩ 3 (0, 0))], sg6096] ∧ Sat Tryz.f60.ntmps [(3, .pointer (some ⟨b5902, 0, none⟩)), (4, .pointer (some ⟨b5906, 0, none⟩)), (7, .slice p6094 o6093.length c6095)] a) ?_ ?_
  · refine G_block ?_
    refine G_while (σ := List Waiter × Int) (ρ := (List Waiter) ⊕ (Bool)) (fun s6078 a w' => ∃ (p6088 : Option Addr), ∃ (c6089 : Nat), ∃ (sg6090 : Seg), ownS encWaiter s6078.1 p6088 c6089 sg6090 ∧ Mem [] w w' [[(b5902, .cells ⟨[.slice p5884 x5882.length c5885]⟩ 29 (0, 0))], [(b5906, .cells ⟨[.int .i64 x5887]⟩ 3 (0, 0))], sg6090] ∧ Sat Tryz.f60.ntmps [(3, .pointer (some ⟨b5902, 0, none⟩)), (4, .pointer (some ⟨b5906, 0, none⟩)), (7, .slice p6088 s6078.1.length c6089), (16, .slice p5894 x5888.Queue.Slots.length c5895), (17, .int .i64 (x5888.Queue.Slots.length : Int)), (18, .int .i64 s6078.2)] a) hw6086 (fun a ha => ⟨p5944, c5945, sg5946, ho5947, M5950.pick [0, 1, 3] (by kernel_rfl), ha.sub (by kernel_rfl)⟩) ?_
    clear hm
    intro s6078 x6079 hm hout6080 a6081 w6082 ⟨p6088, c6089, sg6090, ho6091, M6083, hS6084⟩
    refine G_use hS6084 ?_
    refine G_seq ?_
    refine G_region ?_
    refine W_run 1 [(3, .pointer (some ⟨b5902, 0, none⟩)), (4, .pointer (some ⟨b5906, 0, none⟩)), (7, .slice p6088 s6078.1.length c6089), (16, .slice p5894 x5888.Queue.Slots.length c5895), (17, .int .i64 (x5888.Queue.Slots.length : Int)), (18, .int .i64 s6078.2), (19, .bool (decide (s6078.2 < (x5888.Queue.Slots.length : Int))))] w6082 (by kernel_rfl) ?_
    refine W_nil ?_
    refine N_then ?_
    refine G_seq ?_
    rcases gx_bif hm with ⟨hc6099, hm⟩ | ⟨hc6099, hm⟩
    · refine G_cond_t (b := (decide (s6078.2 < (x5888.Queue.Slots.length : Int)))) hc6099 (by kernel_rfl) ?_
      refine G_skip ?_
      refine N_then ?_
      refine G_seq ?_
      refine G_block ?_
      refine G_seq ?_
      refine G_region ?_
      obtain ⟨y6100, hy6100, hm⟩ := gx_bind hm
      refine W_val (elemP p5894 (s6078.2.toNat * 3)) w6082 (by kernel_rfl) (E_index (E := encSlot) _ _ _ x5888.Queue.Slots.length c5895 .i64 s6078.2 3 (y := y6100) rfl (by kernel_rfl) (by kernel_rfl) (by kernel_rfl) (h5896.mem0 M6083) rfl hy6100) ?_
      refine W_val (.agg #[.int .i64 y6100.State, .int .i64 y6100.Irq, .int .i64 y6100.Priority]) w6082 (by kernel_rfl) (E_loadE (E := encSlot) _ _ true 3 s6078.2 0 (s6078.2.toNat * 3) y6100 (.agg #[.int .i64 y6100.State, .int .i64 y6100.Irq, .int .i64 y6100.Priority]) rfl (by kernel_rfl) (by kernel_rfl) (by kernel_rfl) (h5896.mem0 M6083) hy6100 rfl) ?_
      refine W_new (fun b => .pointer (some ⟨b, 0, none⟩)) (.cells ⟨[.int .i64 0, .int .i64 0, .int .i64 0]⟩ 117 (0, 0)) M6083 rfl (by kernel_rfl) (by kernel_rfl) ?_
      intro b6102 w6103 M6104
      refine W_store _ _ _ true 3 b6102 0 [.int .i64 0, .int .i64 0, .int .i64 0] 117 (.agg #[.int .i64 y6100.State, .int .i64 y6100.Irq, .int .i64 y6100.Priority]) 3 [.int .i64 y6100.State, .int .i64 y6100.Irq, .int .i64 y6100.Priority] M6104 (by kernel_rfl) rfl (by kernel_rfl) (by kernel_rfl) (by kernel_rfl) (by kernel_rfl) (by kernel_rfl) (by kernel_rfl) (by kernel_rfl) (by kernel_rfl) ?_
      intro w6105 M6106
      refine W_nil ?_
      refine N_then ?_
      refine G_seq ?_
      refine G_seq ?_
      refine G_region ?_
      refine W_run 1 [(3, .pointer (some ⟨b5902, 0, none⟩)), (4, .pointer (some ⟨b5906, 0, none⟩)), (7, .slice p6088 s6078.1.length c6089), (9, .pointer (some ⟨b6102, 0, none⟩)), (16, .slice p5894 x5888.Queue.Slots.length c5895), (17, .int .i64 (x5888.Queue.Slots.length : Int)), (18, .int .i64 s6078.2), (22, .pointer (some ⟨b6102, 0, none⟩))] w6105 (by kernel_rfl) ?_
      refine W_val (.int .i64 y6100.State) w6105 (by kernel_rfl) (E_load (e := 117) (fr := (0, 0)) _ _ false 1 b6102 0 [.int .i64 y6100.State, .int .i64 y6100.Irq, .int .i64 y6100.Priority] (.int .i64 y6100.State) rfl (by kernel_rfl) (by kernel_rfl) (by kernel_rfl) (M6106.blk 3 (b := b6102) (o := .cells ⟨[.int .i64 y6100.State, .int .i64 y6100.Irq, .int .i64 y6100.Priority]⟩ 117 (0, 0)) (by kernel_rfl))) ?_
      refine W_run 1 [(3, .pointer (some ⟨b5902, 0, none⟩)), (4, .pointer (some ⟨b5906, 0, none⟩)), (7, .slice p6088 s6078.1.length c6089), (9, .pointer (some ⟨b6102, 0, none⟩)), (16, .slice p5894 x5888.Queue.Slots.length c5895), (17, .int .i64 (x5888.Queue.Slots.length : Int)), (18, .int .i64 s6078.2), (24, .bool (y6100.State == 3))] w6105 (by kernel_rfl) ?_
      refine W_nil ?_
      refine N_then ?_
      rcases gx_bif hm with ⟨hc6107, hm⟩ | ⟨hc6107, hm⟩
      · refine G_cond_t (b := (y6100.State == 3)) hc6107 (by kernel_rfl) ?_
        refine G_seq ?_
        refine G_region ?_
        refine W_run 1 [(6, .bool false)] w6105 (by kernel_rfl) ?_
        refine W_nil ?_
        refine N_then ?_
        refine G_ret ?_
        refine N_then_ret ?_
        refine N_block_ret ?_
        refine N_then_ret ?_
        refine N_then_ret ?_
        obtain rfl := Option.some.inj hm
        obtain rfl := hout6080 _ rfl
        have hm := hmo6087; simp only [Sum.elim_inr] at hm
        refine N_block_ret ?_
        refine N_meet_ret ?_
        refine N_then_ret ?_
        obtain rfl := Option.some.inj hm
        refine N_ret [.bool false] (RVs_cons (RV_tmp (by kernel_rfl)) RVs_nil) ?_
        exact ⟨rfl, M6106.pick [] (by kernel_rfl)⟩
      · refine G_cond_f (b := (y6100.State == 3)) hc6107 (by kernel_rfl) ?_
        refine G_skip ?_
        refine N_then ?_
        refine G_seq ?_
        refine G_region ?_
        refine W_run 1 [(3, .pointer (some ⟨b5902, 0, none⟩)), (4, .pointer (some ⟨b5906, 0, none⟩)), (7, .slice p6088 s6078.1.length c6089), (9, .pointer (some ⟨b6102, 0, none⟩)), (16, .slice p5894 x5888.Queue.Slots.length c5895), (17, .int .i64 (x5888.Queue.Slots.length : Int)), (18, .int .i64 s6078.2), (25, .pointer (some ⟨b6102, 0, none⟩))] w6105 (by kernel_rfl) ?_
        refine W_val (.int .i64 y6100.State) w6105 (by kernel_rfl) (E_load (e := 117) (fr := (0, 0)) _ _ false 1 b6102 0 [.int .i64 y6100.State, .int .i64 y6100.Irq, .int .i64 y6100.Priority] (.int .i64 y6100.State) rfl (by kernel_rfl) (by kernel_rfl) (by kernel_rfl) (M6106.blk 3 (b := b6102) (o := .cells ⟨[.int .i64 y6100.State, .int .i64 y6100.Irq, .int .i64 y6100.Priority]⟩ 117 (0, 0)) (by kernel_rfl))) ?_
        refine W_run 1 [(3, .pointer (some ⟨b5902, 0, none⟩)), (4, .pointer (some ⟨b5906, 0, none⟩)), (7, .slice p6088 s6078.1.length c6089), (9, .pointer (some ⟨b6102, 0, none⟩)), (16, .slice p5894 x5888.Queue.Slots.length c5895), (17, .int .i64 (x5888.Queue.Slots.length : Int)), (18, .int .i64 s6078.2), (27, .bool (y6100.State != 0))] w6105 (by kernel_rfl) ?_
        refine W_nil ?_
        refine N_then ?_
        obtain ⟨o6128, ho6129, hm6130⟩ := gx_bind hm
        refine G_meet (fun a w' => ∃ (p6131 : Option Addr), ∃ (c6132 : Nat), ∃ (sg6133 : Seg), ownS encWaiter o6128 p6131 c6132 sg6133 ∧ Mem [] w w' [[(b5902, .cells ⟨[.slice p5884 x5882.length c5885]⟩ 29 (0, 0))], [(b5906, .cells ⟨[.int .i64 x5887]⟩ 3 (0, 0))], sg6133] ∧ Sat Tryz.f60.ntmps [(3, .pointer (some ⟨b5902, 0, none⟩)), (4, .pointer (some ⟨b5906, 0, none⟩)), (7, .slice p6131 o6128.length c6132), (16, .slice p5894 x5888.Queue.Slots.length c5895), (17, .int .i64 (x5888.Queue.Slots.length : Int)), (18, .int .i64 s6078.2)] a) ?_ ?_
        · have hm := ho6129
          rcases gx_bif hm with ⟨hc6136, hm⟩ | ⟨hc6136, hm⟩
          · refine G_cond_t (b := (y6100.State != 0)) hc6136 (by kernel_rfl) ?_
            refine G_region ?_
            refine W_run 1 [(3, .pointer (some ⟨b5902, 0, none⟩)), (4, .pointer (some ⟨b5906, 0, none⟩)), (7, .slice p6088 s6078.1.length c6089), (9, .pointer (some ⟨b6102, 0, none⟩)), (16, .slice p5894 x5888.Queue.Slots.length c5895), (17, .int .i64 (x5888.Queue.Slots.length : Int)), (18, .int .i64 s6078.2), (28, .slice p6088 s6078.1.length c6089)] w6105 (by kernel_rfl) ?_
            refine W_val (.agg #[.int .i64 y6100.State, .int .i64 y6100.Irq, .int .i64 y6100.Priority]) w6105 (by kernel_rfl) (E_load (e := 117) (fr := (0, 0)) _ _ true 3 b6102 0 [.int .i64 y6100.State, .int .i64 y6100.Irq, .int .i64 y6100.Priority] (.agg #[.int .i64 y6100.State, .int .i64 y6100.Irq, .int .i64 y6100.Priority]) rfl (by kernel_rfl) (by kernel_rfl) (by kernel_rfl) (M6106.blk 3 (b := b6102) (o := .cells ⟨[.int .i64 y6100.State, .int .i64 y6100.Irq, .int .i64 y6100.Priority]⟩ 117 (0, 0)) (by kernel_rfl))) ?_
            obtain ⟨r6137, hr6137, hm⟩ := gx_bind hm
            refine W_call 119 #[.agg #[.int .i64 y6100.State, .int .i64 y6100.Irq, .int .i64 y6100.Priority]] (by kernel_rfl) (by kernel_rfl) ?_
            refine (c_i_waiterOf w6105 y6100 hr6137).mono ?_
            rintro e_ w6138 ⟨rfl, K6139⟩
            have M6140 := M6106.call0 K6139
            refine ⟨_, rfl, ?_⟩
            refine W_lit (E := encWaiter) [r6137] 1 [.int .i64 r6137.Irq, .int .i64 r6137.Priority] 142 M6140 (by kernel_rfl) (by kernel_rfl) (by kernel_rfl) (by kernel_rfl) (by kernel_rfl) ?_
            intro p6141 c6142 sg6143 w6144 ho6145 M6146
            obtain ⟨ap6148, hap6148, hm⟩ := gx_bind hm
            refine W_append (E := encWaiter) _ _ _ 16 [.int .i64 0, .int .i64 0] 2 c6142 M6146 ho6091 (by kernel_rfl) (by kernel_rfl) (by kernel_rfl) rfl (by kernel_rfl) (by kernel_rfl) (by kernel_rfl) (by kernel_rfl) (by kernel_rfl) (by kernel_rfl) (ho6145.rd M6146 4 (by kernel_rfl)) hap6148 ?_
            intro p6149 c6150 sg6151 w6152 ho6153 M6154
            refine W_run 1 [(3, .pointer (some ⟨b5902, 0, none⟩)), (4, .pointer (some ⟨b5906, 0, none⟩)), (7, .slice p6149 ap6148.length c6150), (16, .slice p5894 x5888.Queue.Slots.length c5895), (17, .int .i64 (x5888.Queue.Slots.length : Int)), (18, .int .i64 s6078.2)] w6152 (by kernel_rfl) ?_
            refine W_nil ?_
            obtain rfl := Option.some.inj hm
            exact N_meet fun a ha => ⟨p6149, c6150, sg6151, ho6153, M6154.pick [0, 1, 2] (by kernel_rfl), ha.sub (by kernel_rfl)⟩
          · refine G_cond_f (b := (y6100.State != 0)) hc6136 (by kernel_rfl) ?_
            refine G_skip ?_
            obtain rfl := Option.some.inj hm
            exact N_meet fun a ha => ⟨p6088, c6089, sg6090, ho6091, M6106.pick [0, 1, 2] (by kernel_rfl), ha.sub (by kernel_rfl)⟩
        · intro a6158 w6156 ⟨p6131, c6132, sg6133, ho6134, M6157, hS6159⟩
          refine N_use hS6159 ?_
          have hm := hm6130
          refine N_block ?_
          refine N_then ?_
          refine G_region ?_
          refine W_run 2 [(3, .pointer (some ⟨b5902, 0, none⟩)), (4, .pointer (some ⟨b5906, 0, none⟩)), (7, .slice p6131 o6128.length c6132), (16, .slice p5894 x5888.Queue.Slots.length c5895), (17, .int .i64 (x5888.Queue.Slots.length : Int)), (18, .int .i64 (w64 (s6078.2 + 1)))] w6156 (by kernel_rfl) ?_
          refine W_nil ?_
          obtain rfl := Option.some.inj hm
          exact N_loop fun a ha => ⟨_, rfl, p6131, c6132, sg6133, ho6134, M6157.pick [0, 1, 2] (by kernel_rfl), ha.sub (by kernel_rfl)⟩
    · refine G_cond_f (b := (decide (s6078.2 < (x5888.Queue.Slots.length : Int)))) hc6099 (by kernel_rfl) ?_
      refine G_exit ?_
      refine N_then_exit ?_
      refine N_then_exit ?_
      refine N_block_eq ?_
      obtain rfl := Option.some.inj hm
      obtain rfl := hout6080 _ rfl
      exact N_meet fun a ha => ⟨_, p6088, c6089, sg6090, ho6091, rfl, M6083.pick [0, 1, 2] (by kernel_rfl), ha.sub (by kernel_rfl)⟩
  · intro a6160 w6161 ⟨o6093, p6094, c6095, sg6096, ho6097, hout_, M6162, hS6163⟩
    refine N_use hS6163 ?_
    subst hout_
    have hm := hmo6087; simp only [Sum.elim_inl] at hm
    refine N_then ?_
    refine G_seq ?_
    refine G_region ?_
    refine W_run 2 [(34, .slice p6094 o6093.length c6095), (35, .func (.func 121) #[] #[.pointer (some ⟨b5902, 0, none⟩), .pointer (some ⟨b5906, 0, none⟩)])] w6161 (by kernel_rfl) ?_
    obtain ⟨r6258, hr6258, hm⟩ := gx_bind hm
    refine W_call 120 #[.slice p6094 o6093.length c6095, .func (.func 121) #[] #[.pointer (some ⟨b5902, 0, none⟩), .pointer (some ⟨b5906, 0, none⟩)]] (by kernel_rfl) (by kernel_rfl) ?_
    refine (c_slices_ContainsFunc_120__i_fitsRoutes_1 w6161 o6093 p6094 c6095 (ho6097.rd M6162 2 (by kernel_rfl)) x5882 p5884 c5885 (h5886.mem0 M6162) b5902 (M6162.blk 0 (b := b5902) (o := .cells ⟨[.slice p5884 x5882.length c5885]⟩ 29 (0, 0)) (by kernel_rfl)) x5887 b5906 (M6162.blk 1 (b := b5906) (o := .cells ⟨[.int .i64 x5887]⟩ 3 (0, 0)) (by kernel_rfl)) hr6258).mono ?_
    rintro e_ w6259 ⟨rfl, K6260⟩
    have M6261 := M6162.call0 K6260
    refine ⟨_, rfl, ?_⟩
    refine W_run 2 [(6, .bool (!r6258))] w6259 (by kernel_rfl) ?_
    refine W_nil ?_
    refine N_then ?_
    refine G_ret ?_
    obtain rfl := Option.some.inj hm
    refine N_ret [.bool (!r6258)] (RVs_cons (RV_tmp (by kernel_rfl)) RVs_nil) ?_
    exact ⟨rfl, M6261.pick [] (by kernel_rfl)⟩
theorem c_i_IsMachine (w : World) (x3985 : Machine) (p3987 : Option Addr) (c3988 : Nat) (h3989 : rdS encRoute w x3985.Routes p3987 c3988) (p3991 : Option Addr) (c3992 : Nat) (h3993 : rdS Gx.encB w x3985.Enabled p3991 c3992) (p3995 : Option Addr) (c3996 : Nat) (h3997 : rdS Gx.encB w x3985.Raised p3995 c3996) (p3999 : Option Addr) (c4000 : Nat) (h4001 : rdD deepInterface w x3985.Cpus p3999 c4000) {r : Bool} (hm : M.i_IsMachine x3985 = some r) :
    Calls Tryz.prog 15 #[.agg #[.slice p3987 x3985.Routes.length c3988, .slice p3991 x3985.Enabled.length c3992, .slice p3995 x3985.Raised.length c3996, .slice p3999 x3985.Cpus.length c4000]] w fun e w' => e = .returned (.bool r) ∧ Mem [] w w' [] := by
  unfold M.i_IsMachine at hm
  refine C_enter Tryz.func15 rfl (by kernel_rfl) ?_
  have M0 := Mem.refl [] w
  refine G_seq ?_
  refine G_region ?_
  refine W_new (fun b => .pointer (some ⟨b, 0, none⟩)) (.cells ⟨[.slice p3987 x3985.Routes.length c3988, .slice p3991 x3985.Enabled.length c3992, .slice p3995 x3985.Raised.length c3996, .slice p3999 x3985.Cpus.length c4000]⟩ 32 (0, 0)) M0 rfl (by kernel_rfl) (by kernel_rfl) ?_
  intro b4003 w4004 M4005
  refine W_run 1 [(1, .pointer (some ⟨b4003, 0, none⟩))] w4004 (by kernel_rfl) ?_
  refine W_nil ?_
  refine N_then ?_
  refine G_seq ?_
  refine G_seq ?_
  obtain ⟨o4158, ho4159, hm4160⟩ := gx_bind hm
  refine G_meet (fun a w' => Mem [] w w' [[(b4003, .cells ⟨[.slice p3987 x3985.Routes.length c3988, .slice p3991 x3985.Enabled.length c3992, .slice p3995 x3985.Raised.length c3996, .slice p3999 x3985.Cpus.length c4000]⟩ 32 (0, 0))]] ∧ Sat Tryz.f15.ntmps [(1, .pointer (some ⟨b4003, 0, none⟩)), (23, .bool o4158)] a) ?_ ?_
  · have hm := ho4159
    refine G_region ?_
    refine W_run 1 [(1, .pointer (some ⟨b4003, 0, none⟩)), (5, .pointer (some ⟨b4003, 0, none⟩))] w4004 (by kernel_rfl) ?_
    refine W_val (.slice p3987 x3985.Routes.length c3988) w4004 (by kernel_rfl) (E_load (e := 32) (fr := (0, 0)) _ _ false 1 b4003 0 [.slice p3987 x3985.Routes.length c3988, .slice p3991 x3985.Enabled.length c3992, .slice p3995 x3985.Raised.length c3996, .slice p3999 x3985.Cpus.length c4000] (.slice p3987 x3985.Routes.length c3988) rfl (by kernel_rfl) (by kernel_rfl) (by kernel_rfl) (M4005.blk 0 (b := b4003) (o := .cells ⟨[.slice p3987 x3985.Routes.length c3988, .slice p3991 x3985.Enabled.length c3992, .slice p3995 x3985.Raised.length c3996, .slice p3999 x3985.Cpus.length c4000]⟩ 32 (0, 0)) (by kernel_rfl))) ?_
    refine W_run 1 [(1, .pointer (some ⟨b4003, 0, none⟩)), (6, .slice p3987 x3985.Routes.length c3988), (7, .pointer (some ⟨b4003, 3, none⟩))] w4004 (by kernel_rfl) ?_
    refine W_val (.slice p3999 x3985.Cpus.length c4000) w4004 (by kernel_rfl) (E_load (e := 32) (fr := (0, 0)) _ _ false 1 b4003 3 [.slice p3987 x3985.Routes.length c3988, .slice p3991 x3985.Enabled.length c3992, .slice p3995 x3985.Raised.length c3996, .slice p3999 x3985.Cpus.length c4000] (.slice p3999 x3985.Cpus.length c4000) rfl (by kernel_rfl) (by kernel_rfl) (by kernel_rfl) (M4005.blk 0 (b := b4003) (o := .cells ⟨[.slice p3987 x3985.Routes.length c3988, .slice p3991 x3985.Enabled.length c3992, .slice p3995 x3985.Raised.length c3996, .slice p3999 x3985.Cpus.length c4000]⟩ 32 (0, 0)) (by kernel_rfl))) ?_
    refine W_run 1 [(1, .pointer (some ⟨b4003, 0, none⟩)), (6, .slice p3987 x3985.Routes.length c3988), (9, .int .i64 (x3985.Cpus.length : Int))] w4004 (by kernel_rfl) ?_
    obtain ⟨r4161, hr4161, hm⟩ := gx_bind hm
    refine W_call 58 #[.slice p3987 x3985.Routes.length c3988, .int .i64 (x3985.Cpus.length : Int)] (by kernel_rfl) (by kernel_rfl) ?_
    refine (c_i_areRoutes w4004 x3985.Routes p3987 c3988 (h3989.mem0 M4005) (x3985.Cpus.length : Int) hr4161).mono ?_
    rintro e_ w4162 ⟨rfl, K4163⟩
    have M4164 := M4005.call0 K4163
    refine ⟨_, rfl, ?_⟩
    refine W_run 2 [(1, .pointer (some ⟨b4003, 0, none⟩)), (12, .bool (!r4161))] w4162 (by kernel_rfl) ?_
    rcases gx_bif hm with ⟨hc4165, hm⟩ | ⟨hc4165, hm⟩
    · refine W_known 12 true (by kernel_rfl) hc4165 ?_
      refine W_run 11 [(1, .pointer (some ⟨b4003, 0, none⟩)), (23, .bool true)] w4162 (by kernel_rfl) ?_
      refine W_nil ?_
      obtain rfl := Option.some.inj hm
      exact N_meet fun a ha => ⟨M4164.pick [0] (by kernel_rfl), ha.sub (by kernel_rfl)⟩
    · refine W_known 12 false (by kernel_rfl) hc4165 ?_
      refine W_run 1 [(1, .pointer (some ⟨b4003, 0, none⟩)), (12, .bool false), (13, .pointer (some ⟨b4003, 1, none⟩))] w4162 (by kernel_rfl) ?_
      refine W_val (.slice p3991 x3985.Enabled.length c3992) w4162 (by kernel_rfl) (E_load (e := 32) (fr := (0, 0)) _ _ false 1 b4003 1 [.slice p3987 x3985.Routes.length c3988, .slice p3991 x3985.Enabled.length c3992, .slice p3995 x3985.Raised.length c3996, .slice p3999 x3985.Cpus.length c4000] (.slice p3991 x3985.Enabled.length c3992) rfl (by kernel_rfl) (by kernel_rfl) (by kernel_rfl) (M4164.blk 0 (b := b4003) (o := .cells ⟨[.slice p3987 x3985.Routes.length c3988, .slice p3991 x3985.Enabled.length c3992, .slice p3995 x3985.Raised.length c3996, .slice p3999 x3985.Cpus.length c4000]⟩ 32 (0, 0)) (by kernel_rfl))) ?_
      refine W_run 4 [(1, .pointer (some ⟨b4003, 0, none⟩)), (18, .bool ((x3985.Enabled.length : Int) != 8))] w4162 (by kernel_rfl) ?_
      rcases gx_bif hm with ⟨hc4166, hm⟩ | ⟨hc4166, hm⟩
      · refine W_known 18 true (by kernel_rfl) hc4166 ?_
        refine W_run 5 [(1, .pointer (some ⟨b4003, 0, none⟩)), (23, .bool true)] w4162 (by kernel_rfl) ?_
        refine W_nil ?_
        obtain rfl := Option.some.inj hm
        exact N_meet fun a ha => ⟨M4164.pick [0] (by kernel_rfl), ha.sub (by kernel_rfl)⟩
      · refine W_known 18 false (by kernel_rfl) hc4166 ?_
        refine W_run 1 [(1, .pointer (some ⟨b4003, 0, none⟩)), (18, .bool false), (19, .pointer (some ⟨b4003, 2, none⟩))] w4162 (by kernel_rfl) ?_
        refine W_val (.slice p3995 x3985.Raised.length c3996) w4162 (by kernel_rfl) (E_load (e := 32) (fr := (0, 0)) _ _ false 1 b4003 2 [.slice p3987 x3985.Routes.length c3988, .slice p3991 x3985.Enabled.length c3992, .slice p3995 x3985.Raised.length c3996, .slice p3999 x3985.Cpus.length c4000] (.slice p3995 x3985.Raised.length c3996) rfl (by kernel_rfl) (by kernel_rfl) (by kernel_rfl) (M4164.blk 0 (b := b4003) (o := .cells ⟨[.slice p3987 x3985.Routes.length c3988, .slice p3991 x3985.Enabled.length c3992, .slice p3995 x3985.Raised.length c3996, .slice p3999 x3985.Cpus.length c4000]⟩ 32 (0, 0)) (by kernel_rfl))) ?_
        refine W_run 3 [(1, .pointer (some ⟨b4003, 0, none⟩)), (23, .bool ((x3985.Raised.length : Int) != 8))] w4162 (by kernel_rfl) ?_
        refine W_nil ?_
        obtain rfl := Option.some.inj hm
        exact N_meet fun a ha => ⟨M4164.pick [0] (by kernel_rfl), ha.sub (by kernel_rfl)⟩
  · intro a4169 w4167 ⟨M4168, hS4170⟩
    refine N_use hS4170 ?_
    have hm := hm4160
    refine N_then ?_
    rcases gx_bif hm with ⟨hc4171, hm⟩ | ⟨hc4171, hm⟩
    · refine G_cond_t (b := o4158) hc4171 (by kernel_rfl) ?_
      refine G_seq ?_
      refine G_region ?_
      refine W_run 1 [(2, .bool false)] w4167 (by kernel_rfl) ?_
      refine W_nil ?_
      refine N_then ?_
      refine G_ret ?_
      refine N_then_ret ?_
      obtain rfl := Option.some.inj hm
      refine N_ret [.bool false] (RVs_cons (RV_tmp (by kernel_rfl)) RVs_nil) ?_
      exact ⟨rfl, M4168.pick [] (by kernel_rfl)⟩
    · refine G_cond_f (b := o4158) hc4171 (by kernel_rfl) ?_
      refine G_skip ?_
      refine N_then ?_
      refine G_seq ?_
      refine G_seq ?_
      refine G_region ?_
      refine W_run 1 [(1, .pointer (some ⟨b4003, 0, none⟩)), (24, .pointer (some ⟨b4003, 3, none⟩))] w4167 (by kernel_rfl) ?_
      refine W_val (.slice p3999 x3985.Cpus.length c4000) w4167 (by kernel_rfl) (E_load (e := 32) (fr := (0, 0)) _ _ false 1 b4003 3 [.slice p3987 x3985.Routes.length c3988, .slice p3991 x3985.Enabled.length c3992, .slice p3995 x3985.Raised.length c3996, .slice p3999 x3985.Cpus.length c4000] (.slice p3999 x3985.Cpus.length c4000) rfl (by kernel_rfl) (by kernel_rfl) (by kernel_rfl) (M4168.blk 0 (b := b4003) (o := .cells ⟨[.slice p3987 x3985.Routes.length c3988, .slice p3991 x3985.Enabled.length c3992, .slice p3995 x3985.Raised.length c3996, .slice p3999 x3985.Cpus.length c4000]⟩ 32 (0, 0)) (by kernel_rfl))) ?_
      refine W_run 2 [(1, .pointer (some ⟨b4003, 0, none⟩)), (25, .slice p3999 x3985.Cpus.length c4000), (26, .int .i64 (x3985.Cpus.length : Int)), (27, .int .i64 0)] w4167 (by kernel_rfl) ?_
      refine W_nil ?_
      refine N_then ?_
      obtain ⟨out6336, hw6337, hmo6338⟩ := gx_bind hm
      refine G_meet (fun a w' => ∃ (o6339 : Unit), out6336 = .inl o6339 ∧ Mem [] w w' [] ∧ Sat Tryz.f15.ntmps [] a) ?_ ?_
      · refine G_block ?_
        refine G_while (σ := Int) (ρ := (Unit) ⊕ (Bool)) (fun s6329 a w' => Mem [] w w' [[(b4003, .cells ⟨[.slice p3987 x3985.Routes.length c3988, .slice p3991 x3985.Enabled.length c3992, .slice p3995 x3985.Raised.length c3996, .slice p3999 x3985.Cpus.length c4000]⟩ 32 (0, 0))]] ∧ Sat Tryz.f15.ntmps [(1, .pointer (some ⟨b4003, 0, none⟩)), (25, .slice p3999 x3985.Cpus.length c4000), (26, .int .i64 (x3985.Cpus.length : Int)), (27, .int .i64 s6329)] a) hw6337 (fun a ha => ⟨M4168.pick [0] (by kernel_rfl), ha.sub (by kernel_rfl)⟩) ?_
        clear hm
        intro s6329 x6330 hm hout6331 a6332 w6333 ⟨M6334, hS6335⟩
        refine G_use hS6335 ?_
        refine G_seq ?_
        refine G_region ?_
        refine W_run 1 [(1, .pointer (some ⟨b4003, 0, none⟩)), (25, .slice p3999 x3985.Cpus.length c4000), (26, .int .i64 (x3985.Cpus.length : Int)), (27, .int .i64 s6329), (28, .bool (decide (s6329 < (x3985.Cpus.length : Int))))] w6333 (by kernel_rfl) ?_
        refine W_nil ?_
        refine N_then ?_
        refine G_seq ?_
        rcases gx_bif hm with ⟨hc6340, hm⟩ | ⟨hc6340, hm⟩
        · refine G_cond_t (b := (decide (s6329 < (x3985.Cpus.length : Int)))) hc6340 (by kernel_rfl) ?_
          refine G_skip ?_
          refine N_then ?_
          refine G_seq ?_
          refine G_block ?_
          refine G_seq ?_
          refine G_region ?_
          refine W_run 1 [(1, .pointer (some ⟨b4003, 0, none⟩)), (25, .slice p3999 x3985.Cpus.length c4000), (26, .int .i64 (x3985.Cpus.length : Int)), (27, .int .i64 s6329), (29, .int .i64 s6329)] w6333 (by kernel_rfl) ?_
          obtain ⟨y6341, hy6341, hm⟩ := gx_bind hm
          obtain ⟨zs6342, hz6343, hr6344, hi6345⟩ := id h4001
          obtain ⟨g6346, hg6347⟩ := gxIdx_fst hz6343 hy6341
          refine W_val (elemP p3999 (s6329.toNat * 4)) w6333 (by kernel_rfl) (E_index (E := deepInterface.E) _ _ _ x3985.Cpus.length c4000 .i64 s6329 4 (y := (y6341, g6346)) rfl (by kernel_rfl) (by kernel_rfl) (by kernel_rfl) (hr6344.mem0 M6334) (len_fst hz6343) hg6347) ?_
          refine W_val (.agg #[.int .i64 y6341.Mask, .slice ((g6346 0).1) y6341.Stack.length ((g6346 0).2), .slice ((g6346 1).1) y6341.Queue.Slots.length ((g6346 1).2), .slice ((g6346 2).1) y6341.Queue.Waiting.length ((g6346 2).2)]) w6333 (by kernel_rfl) (E_loadE (E := deepInterface.E) _ _ true 4 s6329 0 (s6329.toNat * 4) (y6341, g6346) (.agg #[.int .i64 y6341.Mask, .slice ((g6346 0).1) y6341.Stack.length ((g6346 0).2), .slice ((g6346 1).1) y6341.Queue.Slots.length ((g6346 1).2), .slice ((g6346 2).1) y6341.Queue.Waiting.length ((g6346 2).2)]) rfl (by kernel_rfl) (by kernel_rfl) (by kernel_rfl) (hr6344.mem0 M6334) hg6347 rfl) ?_
          refine W_new (fun b => .pointer (some ⟨b, 0, none⟩)) (.cells ⟨[.int .i64 0, .slice none 0 0, .slice none 0 0, .slice none 0 0]⟩ 87 (0, 0)) M6334 rfl (by kernel_rfl) (by kernel_rfl) ?_
          intro b6355 w6356 M6357
          refine W_run 1 [(1, .pointer (some ⟨b4003, 0, none⟩)), (3, .int .i64 s6329), (4, .pointer (some ⟨b6355, 0, none⟩)), (25, .slice p3999 x3985.Cpus.length c4000), (26, .int .i64 (x3985.Cpus.length : Int)), (27, .int .i64 s6329), (31, .agg #[.int .i64 y6341.Mask, .slice ((g6346 0).1) y6341.Stack.length ((g6346 0).2), .slice ((g6346 1).1) y6341.Queue.Slots.length ((g6346 1).2), .slice ((g6346 2).1) y6341.Queue.Waiting.length ((g6346 2).2)])] w6356 (by kernel_rfl) ?_
          refine W_store _ _ _ true 4 b6355 0 [.int .i64 0, .slice none 0 0, .slice none 0 0, .slice none 0 0] 87 (.agg #[.int .i64 y6341.Mask, .slice ((g6346 0).1) y6341.Stack.length ((g6346 0).2), .slice ((g6346 1).1) y6341.Queue.Slots.length ((g6346 1).2), .slice ((g6346 2).1) y6341.Queue.Waiting.length ((g6346 2).2)]) 1 [.int .i64 y6341.Mask, .slice ((g6346 0).1) y6341.Stack.length ((g6346 0).2), .slice ((g6346 1).1) y6341.Queue.Slots.length ((g6346 1).2), .slice ((g6346 2).1) y6341.Queue.Waiting.length ((g6346 2).2)] M6357 (by kernel_rfl) rfl (by kernel_rfl) (by kernel_rfl) (by kernel_rfl) (by kernel_rfl) (by kernel_rfl) (by kernel_rfl) (by kernel_rfl) (by kernel_rfl) ?_
          intro w6358 M6359
          refine W_nil ?_
          refine N_then ?_
          refine G_seq ?_
          obtain ⟨o6369, ho6370, hm6371⟩ := gx_bind hm
          refine G_meet (fun a w' => Mem [] w w' [[(b4003, .cells ⟨[.slice p3987 x3985.Routes.length c3988, .slice p3991 x3985.Enabled.length c3992, .slice p3995 x3985.Raised.length c3996, .slice p3999 x3985.Cpus.length c4000]⟩ 32 (0, 0))]] ∧ Sat Tryz.f15.ntmps [(1, .pointer (some ⟨b4003, 0, none⟩)), (25, .slice p3999 x3985.Cpus.length c4000), (26, .int .i64 (x3985.Cpus.length : Int)), (27, .int .i64 s6329), (42, .bool o6369)] a) ?_ ?_
          · have hm := ho6370
            refine G_region ?_
            refine W_val (.agg #[.int .i64 y6341.Mask, .slice ((g6346 0).1) y6341.Stack.length ((g6346 0).2), .slice ((g6346 1).1) y6341.Queue.Slots.length ((g6346 1).2), .slice ((g6346 2).1) y6341.Queue.Waiting.length ((g6346 2).2)]) w6358 (by kernel_rfl) (E_load (e := 87) (fr := (0, 0)) _ _ true 4 b6355 0 [.int .i64 y6341.Mask, .slice ((g6346 0).1) y6341.Stack.length ((g6346 0).2), .slice ((g6346 1).1) y6341.Queue.Slots.length ((g6346 1).2), .slice ((g6346 2).1) y6341.Queue.Waiting.length ((g6346 2).2)] (.agg #[.int .i64 y6341.Mask, .slice ((g6346 0).1) y6341.Stack.length ((g6346 0).2), .slice ((g6346 1).1) y6341.Queue.Slots.length ((g6346 1).2), .slice ((g6346 2).1) y6341.Queue.Waiting.length ((g6346 2).2)]) rfl (by kernel_rfl) (by kernel_rfl) (by kernel_rfl) (M6359.blk 1 (b := b6355) (o := .cells ⟨[.int .i64 y6341.Mask, .slice ((g6346 0).1) y6341.Stack.length ((g6346 0).2), .slice ((g6346 1).1) y6341.Queue.Slots.length ((g6346 1).2), .slice ((g6346 2).1) y6341.Queue.Waiting.length ((g6346 2).2)]⟩ 87 (0, 0)) (by kernel_rfl))) ?_
            obtain ⟨r6372, hr6372, hm⟩ := gx_bind hm
            refine W_call 59 #[.agg #[.int .i64 y6341.Mask, .slice ((g6346 0).1) y6341.Stack.length ((g6346 0).2), .slice ((g6346 1).1) y6341.Queue.Slots.length ((g6346 1).2), .slice ((g6346 2).1) y6341.Queue.Waiting.length ((g6346 2).2)]] (by kernel_rfl) (by kernel_rfl) ?_
            refine (c_i_IsInterface w6358 (⟨y6341.Mask, y6341.Stack, (⟨y6341.Queue.Slots, y6341.Queue.Waiting⟩ : Queue)⟩ : Interface) ((g6346 0).1) ((g6346 0).2) ((hi6345.mem0 M6359).at_ hg6347 0 ⟨Int, Gx.encI, y6341.Stack, (g6346 0).1, (g6346 0).2⟩ (by kernel_rfl)) ((g6346 1).1) ((g6346 1).2) ((hi6345.mem0 M6359).at_ hg6347 1 ⟨Slot, encSlot, y6341.Queue.Slots, (g6346 1).1, (g6346 1).2⟩ (by kernel_rfl)) ((g6346 2).1) ((g6346 2).2) ((hi6345.mem0 M6359).at_ hg6347 2 ⟨Waiter, encWaiter, y6341.Queue.Waiting, (g6346 2).1, (g6346 2).2⟩ (by kernel_rfl)) hr6372).mono ?_
            rintro e_ w6373 ⟨rfl, K6374⟩
            have M6375 := M6359.call0 K6374
            refine ⟨_, rfl, ?_⟩
            refine W_run 2 [(1, .pointer (some ⟨b4003, 0, none⟩)), (3, .int .i64 s6329), (4, .pointer (some ⟨b6355, 0, none⟩)), (25, .slice p3999 x3985.Cpus.length c4000), (26, .int .i64 (x3985.Cpus.length : Int)), (27, .int .i64 s6329), (35, .bool (!r6372))] w6373 (by kernel_rfl) ?_
            rcases gx_bif hm with ⟨hc6376, hm⟩ | ⟨hc6376, hm⟩
            · refine W_known 35 true (by kernel_rfl) hc6376 ?_
              refine W_run 7 [(1, .pointer (some ⟨b4003, 0, none⟩)), (25, .slice p3999 x3985.Cpus.length c4000), (26, .int .i64 (x3985.Cpus.length : Int)), (27, .int .i64 s6329), (42, .bool true)] w6373 (by kernel_rfl) ?_
              refine W_nil ?_
              obtain rfl := Option.some.inj hm
              exact N_meet fun a ha => ⟨M6375.pick [0] (by kernel_rfl), ha.sub (by kernel_rfl)⟩
            · refine W_known 35 false (by kernel_rfl) hc6376 ?_
              refine W_run 1 [(1, .pointer (some ⟨b4003, 0, none⟩)), (3, .int .i64 s6329), (4, .pointer (some ⟨b6355, 0, none⟩)), (25, .slice p3999 x3985.Cpus.length c4000), (26, .int .i64 (x3985.Cpus.length : Int)), (27, .int .i64 s6329), (35, .bool false), (36, .pointer (some ⟨b4003, 0, none⟩))] w6373 (by kernel_rfl) ?_
              refine W_val (.slice p3987 x3985.Routes.length c3988) w6373 (by kernel_rfl) (E_load (e := 32) (fr := (0, 0)) _ _ false 1 b4003 0 [.slice p3987 x3985.Routes.length c3988, .slice p3991 x3985.Enabled.length c3992, .slice p3995 x3985.Raised.length c3996, .slice p3999 x3985.Cpus.length c4000] (.slice p3987 x3985.Routes.length c3988) rfl (by kernel_rfl) (by kernel_rfl) (by kernel_rfl) (M6375.blk 0 (b := b4003) (o := .cells ⟨[.slice p3987 x3985.Routes.length c3988, .slice p3991 x3985.Enabled.length c3992, .slice p3995 x3985.Raised.length c3996, .slice p3999 x3985.Cpus.length c4000]⟩ 32 (0, 0)) (by kernel_rfl))) ?_
              refine W_run 1 [(1, .pointer (some ⟨b4003, 0, none⟩)), (4, .pointer (some ⟨b6355, 0, none⟩)), (25, .slice p3999 x3985.Cpus.length c4000), (26, .int .i64 (x3985.Cpus.length : Int)), (27, .int .i64 s6329), (35, .bool false), (37, .slice p3987 x3985.Routes.length c3988), (38, .int .i64 s6329)] w6373 (by kernel_rfl) ?_
              refine W_val (.agg #[.int .i64 y6341.Mask, .slice ((g6346 0).1) y6341.Stack.length ((g6346 0).2), .slice ((g6346 1).1) y6341.Queue.Slots.length ((g6346 1).2), .slice ((g6346 2).1) y6341.Queue.Waiting.length ((g6346 2).2)]) w6373 (by kernel_rfl) (E_load (e := 87) (fr := (0, 0)) _ _ true 4 b6355 0 [.int .i64 y6341.Mask, .slice ((g6346 0).1) y6341.Stack.length ((g6346 0).2), .slice ((g6346 1).1) y6341.Queue.Slots.length ((g6346 1).2), .slice ((g6346 2).1) y6341.Queue.Waiting.length ((g6346 2).2)] (.agg #[.int .i64 y6341.Mask, .slice ((g6346 0).1) y6341.Stack.length ((g6346 0).2), .slice ((g6346 1).1) y6341.Queue.Slots.length ((g6346 1).2), .slice ((g6346 2).1) y6341.Queue.Waiting.length ((g6346 2).2)]) rfl (by kernel_rfl) (by kernel_rfl) (by kernel_rfl) (M6375.blk 1 (b := b6355) (o := .cells ⟨[.int .i64 y6341.Mask, .slice ((g6346 0).1) y6341.Stack.length ((g6346 0).2), .slice ((g6346 1).1) y6341.Queue.Slots.length ((g6346 1).2), .slice ((g6346 2).1) y6341.Queue.Waiting.length ((g6346 2).2)]⟩ 87 (0, 0)) (by kernel_rfl))) ?_
              obtain ⟨r6377, hr6377, hm⟩ := gx_bind hm
              refine W_call 60 #[.slice p3987 x3985.Routes.length c3988, .int .i64 s6329, .agg #[.int .i64 y6341.Mask, .slice ((g6346 0).1) y6341.Stack.length ((g6346 0).2), .slice ((g6346 1).1) y6341.Queue.Slots.length ((g6346 1).2), .slice ((g6346 2).1) y6341.Queue.Waiting.length ((g6346 2).2)]] (by kernel_rfl) (by kernel_rfl) ?_
              refine (c_i_fitsRoutes w6373 x3985.Routes p3987 c3988 (h3989.mem0 M6375) s6329 (⟨y6341.Mask, y6341.Stack, (⟨y6341.Queue.Slots, y6341.Queue.Waiting⟩ : Queue)⟩ : Interface) ((g6346 0).1) ((g6346 0).2) ((hi6345.mem0 M6375).at_ hg6347 0 ⟨Int, Gx.encI, y6341.Stack, (g6346 0).1, (g6346 0).2⟩ (by kernel_rfl)) ((g6346 1).1) ((g6346 1).2) ((hi6345.mem0 M6375).at_ hg6347 1 ⟨Slot, encSlot, y6341.Queue.Slots, (g6346 1).1, (g6346 1).2⟩ (by kernel_rfl)) ((g6346 2).1) ((g6346 2).2) ((hi6345.mem0 M6375).at_ hg6347 2 ⟨Waiter, encWaiter, y6341.Queue.Waiting, (g6346 2).1, (g6346 2).2⟩ (by kernel_rfl)) hr6377).mono ?_
              rintro e_ w6378 ⟨rfl, K6379⟩
              have M6380 := M6375.call0 K6379
              refine ⟨_, rfl, ?_⟩
              refine W_run 2 [(1, .pointer (some ⟨b4003, 0, none⟩)), (25, .slice p3999 x3985.Cpus.length c4000), (26, .int .i64 (x3985.Cpus.length : Int)), (27, .int .i64 s6329), (42, .bool (!r6377))] w6378 (by kernel_rfl) ?_
              refine W_nil ?_
              obtain rfl := Option.some.inj hm
              exact N_meet fun a ha => ⟨M6380.pick [0] (by kernel_rfl), ha.sub (by kernel_rfl)⟩
          · intro a6383 w6381 ⟨M6382, hS6384⟩
            refine N_use hS6384 ?_
            have hm := hm6371
            refine N_then ?_
            rcases gx_bif hm with ⟨hc6385, hm⟩ | ⟨hc6385, hm⟩
            · refine G_cond_t (b := o6369) hc6385 (by kernel_rfl) ?_
              refine G_seq ?_
              refine G_region ?_
              refine W_run 1 [(2, .bool false)] w6381 (by kernel_rfl) ?_
              refine W_nil ?_
              refine N_then ?_
              refine G_ret ?_
              refine N_block_ret ?_
              refine N_then_ret ?_
              refine N_then_ret ?_
              obtain rfl := Option.some.inj hm
              obtain rfl := hout6331 _ rfl
              have hm := hmo6338; simp only [Sum.elim_inr] at hm
              refine N_block_ret ?_
              refine N_meet_ret ?_
              refine N_then_ret ?_
              obtain rfl := Option.some.inj hm
              refine N_ret [.bool false] (RVs_cons (RV_tmp (by kernel_rfl)) RVs_nil) ?_
              exact ⟨rfl, M6382.pick [] (by kernel_rfl)⟩
            · refine G_cond_f (b := o6369) hc6385 (by kernel_rfl) ?_
              refine G_skip ?_
              refine N_block ?_
              refine N_then ?_
              refine G_region ?_
              refine W_run 2 [(1, .pointer (some ⟨b4003, 0, none⟩)), (25, .slice p3999 x3985.Cpus.length c4000), (26, .int .i64 (x3985.Cpus.length : Int)), (27, .int .i64 (w64 (s6329 + 1)))] w6381 (by kernel_rfl) ?_
              refine W_nil ?_
              obtain rfl := Option.some.inj hm
              exact N_loop fun a ha => ⟨_, rfl, M6382.pick [0] (by kernel_rfl), ha.sub (by kernel_rfl)⟩
        · refine G_cond_f (b := (decide (s6329 < (x3985.Cpus.length : Int)))) hc6340 (by kernel_rfl) ?_
          refine G_exit ?_
          refine N_then_exit ?_
          refine N_then_exit ?_
          refine N_block_eq ?_
          obtain rfl := Option.some.inj hm
          obtain rfl := hout6331 _ rfl
          exact N_meet fun a ha => ⟨_, rfl, M6334.pick [] (by kernel_rfl), ha.sub (by kernel_rfl)⟩
      · intro a6386 w6387 ⟨o6339, hout_, M6388, hS6389⟩
        refine N_use hS6389 ?_
        subst hout_
        have hm := hmo6338; simp only [Sum.elim_inl] at hm
        refine N_then ?_
        refine G_seq ?_
        refine G_region ?_
        refine W_run 1 [(2, .bool true)] w6387 (by kernel_rfl) ?_
        refine W_nil ?_
        refine N_then ?_
        refine G_ret ?_
        obtain rfl := Option.some.inj hm
        refine N_ret [.bool true] (RVs_cons (RV_tmp (by kernel_rfl)) RVs_nil) ?_
        exact ⟨rfl, M6388.pick [] (by kernel_rfl)⟩
theorem c_l_eqRoute (w : World) (x6491 : Route) (x6492 : Route) {r : Bool} (hm : M.l_eqRoute x6491 x6492 = some r) :
    Calls Tryz.prog 122 #[.agg #[.int .i64 x6491.Priority, .int .i64 x6491.Target], .agg #[.int .i64 x6492.Priority, .int .i64 x6492.Target]] w fun e w' => e = .returned (.bool r) ∧ Mem [] w w' [] := by
  unfold M.l_eqRoute at hm
  refine C_enter Tryz.func122 rfl (by kernel_rfl) ?_
  have M0 := Mem.refl [] w
  refine G_seq ?_
  refine G_region ?_
  refine W_new (fun b => .pointer (some ⟨b, 0, none⟩)) (.cells ⟨[.int .i64 x6491.Priority, .int .i64 x6491.Target]⟩ 129 (0, 0)) M0 rfl (by kernel_rfl) (by kernel_rfl) ?_
  intro b6494 w6495 M6496
  refine W_new (fun b => .pointer (some ⟨b, 0, none⟩)) (.cells ⟨[.int .i64 x6492.Priority, .int .i64 x6492.Target]⟩ 129 (0, 0)) M6496 rfl (by kernel_rfl) (by kernel_rfl) ?_
  intro b6498 w6499 M6500
  refine W_run 1 [(2, .pointer (some ⟨b6494, 0, none⟩)), (3, .pointer (some ⟨b6498, 0, none⟩))] w6499 (by kernel_rfl) ?_
  refine W_nil ?_
  refine N_then ?_
  refine G_seq ?_
  refine G_seq ?_
  refine G_region ?_
  refine W_run 1 [(2, .pointer (some ⟨b6494, 0, none⟩)), (3, .pointer (some ⟨b6498, 0, none⟩)), (5, .pointer (some ⟨b6494, 0, none⟩))] w6499 (by kernel_rfl) ?_
  refine W_val (.int .i64 x6491.Priority) w6499 (by kernel_rfl) (E_load (e := 129) (fr := (0, 0)) _ _ false 1 b6494 0 [.int .i64 x6491.Priority, .int .i64 x6491.Target] (.int .i64 x6491.Priority) rfl (by kernel_rfl) (by kernel_rfl) (by kernel_rfl) (M6500.blk 0 (b := b6494) (o := .cells ⟨[.int .i64 x6491.Priority, .int .i64 x6491.Target]⟩ 129 (0, 0)) (by kernel_rfl))) ?_
  refine W_run 1 [(2, .pointer (some ⟨b6494, 0, none⟩)), (3, .pointer (some ⟨b6498, 0, none⟩)), (6, .int .i64 x6491.Priority), (7, .pointer (some ⟨b6498, 0, none⟩))] w6499 (by kernel_rfl) ?_
  refine W_val (.int .i64 x6492.Priority) w6499 (by kernel_rfl) (E_load (e := 129) (fr := (0, 0)) _ _ false 1 b6498 0 [.int .i64 x6492.Priority, .int .i64 x6492.Target] (.int .i64 x6492.Priority) rfl (by kernel_rfl) (by kernel_rfl) (by kernel_rfl) (M6500.blk 1 (b := b6498) (o := .cells ⟨[.int .i64 x6492.Priority, .int .i64 x6492.Target]⟩ 129 (0, 0)) (by kernel_rfl))) ?_
  refine W_run 1 [(2, .pointer (some ⟨b6494, 0, none⟩)), (3, .pointer (some ⟨b6498, 0, none⟩)), (9, .bool (x6491.Priority != x6492.Priority))] w6499 (by kernel_rfl) ?_
  refine W_nil ?_
  refine N_then ?_
  rcases gx_bif hm with ⟨hc6501, hm⟩ | ⟨hc6501, hm⟩
  · refine G_cond_t (b := (x6491.Priority != x6492.Priority)) hc6501 (by kernel_rfl) ?_
    refine G_seq ?_
    refine G_region ?_
    refine W_run 1 [(4, .bool false)] w6499 (by kernel_rfl) ?_
    refine W_nil ?_
    refine N_then ?_
    refine G_ret ?_
    refine N_then_ret ?_
    obtain rfl := Option.some.inj hm
    refine N_ret [.bool false] (RVs_cons (RV_tmp (by kernel_rfl)) RVs_nil) ?_
    exact ⟨rfl, M6500.pick [] (by kernel_rfl)⟩
  · refine G_cond_f (b := (x6491.Priority != x6492.Priority)) hc6501 (by kernel_rfl) ?_
    refine G_skip ?_
    refine N_then ?_
    refine G_seq ?_
    refine G_seq ?_
    refine G_region ?_
    refine W_run 1 [(3, .pointer (some ⟨b6498, 0, none⟩)), (10, .pointer (some ⟨b6494, 1, none⟩))] w6499 (by kernel_rfl) ?_
    refine W_val (.int .i64 x6491.Target) w6499 (by kernel_rfl) (E_load (e := 129) (fr := (0, 0)) _ _ false 1 b6494 1 [.int .i64 x6491.Priority, .int .i64 x6491.Target] (.int .i64 x6491.Target) rfl (by kernel_rfl) (by kernel_rfl) (by kernel_rfl) (M6500.blk 0 (b := b6494) (o := .cells ⟨[.int .i64 x6491.Priority, .int .i64 x6491.Target]⟩ 129 (0, 0)) (by kernel_rfl))) ?_
    refine W_run 1 [(11, .int .i64 x6491.Target), (12, .pointer (some ⟨b6498, 1, none⟩))] w6499 (by kernel_rfl) ?_
    refine W_val (.int .i64 x6492.Target) w6499 (by kernel_rfl) (E_load (e := 129) (fr := (0, 0)) _ _ false 1 b6498 1 [.int .i64 x6492.Priority, .int .i64 x6492.Target] (.int .i64 x6492.Target) rfl (by kernel_rfl) (by kernel_rfl) (by kernel_rfl) (M6500.blk 1 (b := b6498) (o := .cells ⟨[.int .i64 x6492.Priority, .int .i64 x6492.Target]⟩ 129 (0, 0)) (by kernel_rfl))) ?_
    refine W_run 1 [(14, .bool (x6491.Target != x6492.Target))] w6499 (by kernel_rfl) ?_
    refine W_nil ?_
    refine N_then ?_
    rcases gx_bif hm with ⟨hc6502, hm⟩ | ⟨hc6502, hm⟩
    · refine G_cond_t (b := (x6491.Target != x6492.Target)) hc6502 (by kernel_rfl) ?_
      refine G_seq ?_
      refine G_region ?_
      refine W_run 1 [(4, .bool false)] w6499 (by kernel_rfl) ?_
      refine W_nil ?_
      refine N_then ?_
      refine G_ret ?_
      refine N_then_ret ?_
      obtain rfl := Option.some.inj hm
      refine N_ret [.bool false] (RVs_cons (RV_tmp (by kernel_rfl)) RVs_nil) ?_
      exact ⟨rfl, M6500.pick [] (by kernel_rfl)⟩
    · refine G_cond_f (b := (x6491.Target != x6492.Target)) hc6502 (by kernel_rfl) ?_
      refine G_skip ?_
      refine N_then ?_
      refine G_seq ?_
      refine G_region ?_
      refine W_run 1 [(4, .bool true)] w6499 (by kernel_rfl) ?_
      refine W_nil ?_
      refine N_then ?_
      refine G_ret ?_
      obtain rfl := Option.some.inj hm
      refine N_ret [.bool true] (RVs_cons (RV_tmp (by kernel_rfl)) RVs_nil) ?_
      exact ⟨rfl, M6500.pick [] (by kernel_rfl)⟩
theorem c_l_eqRouteS (w : World) (x6477 : List Route) (p6479 : Option Addr) (c6480 : Nat) (h6481 : rdS encRoute w x6477 p6479 c6480) (x6482 : List Route) (p6484 : Option Addr) (c6485 : Nat) (h6486 : rdS encRoute w x6482 p6484 c6485) {r : Bool} (hm : M.l_eqRouteS x6477 x6482 = some r) :
    Calls Tryz.prog 61 #[.slice p6479 x6477.length c6480, .slice p6484 x6482.length c6485] w fun e w' => e = .returned (.bool r) ∧ Mem [] w w' [] := by
  unfold M.l_eqRouteS at hm
  refine C_enter Tryz.func61 rfl (by kernel_rfl) ?_
  have M0 := Mem.refl [] w
  refine G_seq ?_
  refine G_region ?_
  refine W_run 1 [(0, .slice p6479 x6477.length c6480), (1, .slice p6484 x6482.length c6485)] w (by kernel_rfl) ?_
  refine W_nil ?_
  refine N_then ?_
  refine G_seq ?_
  refine G_seq ?_
  refine G_region ?_
  refine W_run 5 [(0, .slice p6479 x6477.length c6480), (1, .slice p6484 x6482.length c6485), (10, .bool ((x6477.length : Int) != (x6482.length : Int)))] w (by kernel_rfl) ?_
  refine W_nil ?_
  refine N_then ?_
  rcases gx_bif hm with ⟨hc6487, hm⟩ | ⟨hc6487, hm⟩
  · refine G_cond_t (b := ((x6477.length : Int) != (x6482.length : Int))) hc6487 (by kernel_rfl) ?_
    refine G_seq ?_
    refine G_region ?_
    refine W_run 1 [(4, .bool false)] w (by kernel_rfl) ?_
    refine W_nil ?_
    refine N_then ?_
    refine G_ret ?_
    refine N_then_ret ?_
    obtain rfl := Option.some.inj hm
    refine N_ret [.bool false] (RVs_cons (RV_tmp (by kernel_rfl)) RVs_nil) ?_
    exact ⟨rfl, M0.pick [] (by kernel_rfl)⟩
  · refine G_cond_f (b := ((x6477.length : Int) != (x6482.length : Int))) hc6487 (by kernel_rfl) ?_
    refine G_skip ?_
    refine N_then ?_
    refine G_seq ?_
    refine G_seq ?_
    refine G_region ?_
    refine W_run 1 [(0, .slice p6479 x6477.length c6480), (1, .slice p6484 x6482.length c6485), (5, .int .i64 0)] w (by kernel_rfl) ?_
    refine W_nil ?_
    refine N_then ?_
    obtain ⟨out6527, hw6528, hmo6529⟩ := gx_bind hm
    refine G_meet (fun a w' => ∃ (o6530 : Unit), out6527 = .inl o6530 ∧ Mem [] w w' [] ∧ Sat Tryz.f61.ntmps [] a) ?_ ?_
    · refine G_block ?_
      refine G_while (σ := Int) (ρ := (Unit) ⊕ (Bool)) (fun s6520 a w' => Mem [] w w' [] ∧ Sat Tryz.f61.ntmps [(0, .slice p6479 x6477.length c6480), (1, .slice p6484 x6482.length c6485), (5, .int .i64 s6520)] a) hw6528 (fun a ha => ⟨M0.pick [] (by kernel_rfl), ha.sub (by kernel_rfl)⟩) ?_
      clear hm
      intro s6520 x6521 hm hout6522 a6523 w6524 ⟨M6525, hS6526⟩
      refine G_use hS6526 ?_
      refine G_seq ?_
      refine G_seq ?_
      refine G_region ?_
      refine W_run 4 [(0, .slice p6479 x6477.length c6480), (1, .slice p6484 x6482.length c6485), (5, .int .i64 s6520), (14, .bool (decide (s6520 < (x6477.length : Int))))] w6524 (by kernel_rfl) ?_
      refine W_nil ?_
      refine N_then ?_
      rcases gx_bif hm with ⟨hc6531, hm⟩ | ⟨hc6531, hm⟩
      · refine G_cond_t (b := (decide (s6520 < (x6477.length : Int)))) hc6531 (by kernel_rfl) ?_
        refine G_skip ?_
        refine N_then ?_
        refine G_seq ?_
        refine G_block ?_
        refine G_seq ?_
        refine G_quiet (by kernel_rfl) (by kernel_rfl) M6525 ?_
        refine Z_runs [.slice p6479 x6477.length c6480, .int .i64 s6520] [(0, .slice p6479 x6477.length c6480), (1, .slice p6484 x6482.length c6485), (5, .int .i64 s6520), (17, .slice p6479 x6477.length c6480), (18, .int .i64 s6520)] (fun w_ => by kernel_rfl) (by kernel_rfl) ?_
        obtain ⟨y6532, hy6532, hm⟩ := gx_bind hm
        refine Z_val (elemP p6479 (s6520.toNat * 2)) (by kernel_rfl) (fun w_ M_ => (E_index (E := encRoute) _ _ _ x6477.length c6480 .i64 s6520 2 (y := y6532) rfl (by kernel_rfl) (by kernel_rfl) (by kernel_rfl) (h6481.mem0 M_) rfl hy6532)) ?_
        refine Z_val (.agg #[.int .i64 y6532.Priority, .int .i64 y6532.Target]) (by kernel_rfl) (fun w_ M_ => (E_loadE (E := encRoute) _ _ true 2 s6520 0 (s6520.toNat * 2) y6532 (.agg #[.int .i64 y6532.Priority, .int .i64 y6532.Target]) rfl (by kernel_rfl) (by kernel_rfl) (by kernel_rfl) (h6481.mem0 M_) hy6532 rfl)) ?_
        refine Z_runs [.slice p6484 x6482.length c6485, .int .i64 s6520] [(0, .slice p6479 x6477.length c6480), (1, .slice p6484 x6482.length c6485), (5, .int .i64 s6520), (20, .agg #[.int .i64 y6532.Priority, .int .i64 y6532.Target]), (21, .slice p6484 x6482.length c6485), (22, .int .i64 s6520)] (fun w_ => by kernel_rfl) (by kernel_rfl) ?_
        obtain ⟨y6533, hy6533, hm⟩ := gx_bind hm
        refine Z_val (elemP p6484 (s6520.toNat * 2)) (by kernel_rfl) (fun w_ M_ => (E_index (E := encRoute) _ _ _ x6482.length c6485 .i64 s6520 2 (y := y6533) rfl (by kernel_rfl) (by kernel_rfl) (by kernel_rfl) (h6486.mem0 M_) rfl hy6533)) ?_
        refine Z_val (.agg #[.int .i64 y6533.Priority, .int .i64 y6533.Target]) (by kernel_rfl) (fun w_ M_ => (E_loadE (E := encRoute) _ _ true 2 s6520 0 (s6520.toNat * 2) y6533 (.agg #[.int .i64 y6533.Priority, .int .i64 y6533.Target]) rfl (by kernel_rfl) (by kernel_rfl) (by kernel_rfl) (h6486.mem0 M_) hy6533 rfl)) ?_
        obtain ⟨r6534, hr6534, hm⟩ := gx_bind hm
        refine Z_call 122 #[.agg #[.int .i64 y6532.Priority, .int .i64 y6532.Target], .agg #[.int .i64 y6533.Priority, .int .i64 y6533.Target]] (.bool r6534) (by kernel_rfl) (fun w_ => by kernel_rfl) (fun w_ M_ => (c_l_eqRoute w_ y6532 y6533 hr6534).mono fun e w2_ h_ => ⟨h_.1, M_.call0 h_.2⟩) ?_
        refine Z_runs [.bool (!r6534)] [(0, .slice p6479 x6477.length c6480), (1, .slice p6484 x6482.length c6485), (5, .int .i64 s6520), (26, .bool (!r6534))] (fun w_ => by kernel_rfl) (by kernel_rfl) ?_
        refine Z_end fun w6538 M6539 => ?_
        refine N_then ?_
        rcases gx_bif hm with ⟨hc6540, hm⟩ | ⟨hc6540, hm⟩
        · refine G_cond_t (b := (!r6534)) hc6540 (by kernel_rfl) ?_
          refine G_seq ?_
          refine G_region ?_
          refine W_run 1 [(4, .bool false)] w6538 (by kernel_rfl) ?_
          refine W_nil ?_
          refine N_then ?_
          refine G_ret ?_
          refine N_block_ret ?_
          refine N_then_ret ?_
          refine N_then_ret ?_
          obtain rfl := Option.some.inj hm
          obtain rfl := hout6522 _ rfl
          have hm := hmo6529; simp only [Sum.elim_inr] at hm
          refine N_block_ret ?_
          refine N_meet_ret ?_
          refine N_then_ret ?_
          obtain rfl := Option.some.inj hm
          refine N_ret [.bool false] (RVs_cons (RV_tmp (by kernel_rfl)) RVs_nil) ?_
          exact ⟨rfl, M6539.pick [] (by kernel_rfl)⟩
        · refine G_cond_f (b := (!r6534)) hc6540 (by kernel_rfl) ?_
          refine G_skip ?_
          refine N_block ?_
          refine N_then ?_
          refine G_region ?_
          refine W_run 3 [(0, .slice p6479 x6477.length c6480), (1, .slice p6484 x6482.length c6485), (5, .int .i64 (w64 (s6520 + 1)))] w6538 (by kernel_rfl) ?_
          refine W_nil ?_
          obtain rfl := Option.some.inj hm
          exact N_loop fun a ha => ⟨_, rfl, M6539.pick [] (by kernel_rfl), ha.sub (by kernel_rfl)⟩
      · refine G_cond_f (b := (decide (s6520 < (x6477.length : Int)))) hc6531 (by kernel_rfl) ?_
        refine G_exit ?_
        refine N_then_exit ?_
        refine N_then_exit ?_
        refine N_block_eq ?_
        obtain rfl := Option.some.inj hm
        obtain rfl := hout6522 _ rfl
        exact N_meet fun a ha => ⟨_, rfl, M6525.pick [] (by kernel_rfl), ha.sub (by kernel_rfl)⟩
    · intro a6541 w6542 ⟨o6530, hout_, M6543, hS6544⟩
      refine N_use hS6544 ?_
      subst hout_
      have hm := hmo6529; simp only [Sum.elim_inl] at hm
      refine N_then ?_
      refine G_seq ?_
      refine G_region ?_
      refine W_run 1 [(4, .bool true)] w6542 (by kernel_rfl) ?_
      refine W_nil ?_
      refine N_then ?_
      refine G_ret ?_
      obtain rfl := Option.some.inj hm
      refine N_ret [.bool true] (RVs_cons (RV_tmp (by kernel_rfl)) RVs_nil) ?_
      exact ⟨rfl, M6543.pick [] (by kernel_rfl)⟩
theorem c_l_eqBoolS (w : World) (x6550 : List Bool) (p6552 : Option Addr) (c6553 : Nat) (h6554 : rdS Gx.encB w x6550 p6552 c6553) (x6555 : List Bool) (p6557 : Option Addr) (c6558 : Nat) (h6559 : rdS Gx.encB w x6555 p6557 c6558) {r : Bool} (hm : M.l_eqBoolS x6550 x6555 = some r) :
    Calls Tryz.prog 62 #[.slice p6552 x6550.length c6553, .slice p6557 x6555.length c6558] w fun e w' => e = .returned (.bool r) ∧ Mem [] w w' [] := by
  unfold M.l_eqBoolS at hm
  refine C_enter Tryz.func62 rfl (by kernel_rfl) ?_
  have M0 := Mem.refl [] w
  refine G_seq ?_
  refine G_region ?_
  refine W_run 1 [(0, .slice p6552 x6550.length c6553), (1, .slice p6557 x6555.length c6558)] w (by kernel_rfl) ?_
  refine W_nil ?_
  refine N_then ?_
  refine G_seq ?_
  refine G_seq ?_
  refine G_region ?_
  refine W_run 5 [(0, .slice p6552 x6550.length c6553), (1, .slice p6557 x6555.length c6558), (10, .bool ((x6550.length : Int) != (x6555.length : Int)))] w (by kernel_rfl) ?_
  refine W_nil ?_
  refine N_then ?_
  rcases gx_bif hm with ⟨hc6560, hm⟩ | ⟨hc6560, hm⟩
  · refine G_cond_t (b := ((x6550.length : Int) != (x6555.length : Int))) hc6560 (by kernel_rfl) ?_
    refine G_seq ?_
    refine G_region ?_
    refine W_run 1 [(4, .bool false)] w (by kernel_rfl) ?_
    refine W_nil ?_
    refine N_then ?_
    refine G_ret ?_
    refine N_then_ret ?_
    obtain rfl := Option.some.inj hm
    refine N_ret [.bool false] (RVs_cons (RV_tmp (by kernel_rfl)) RVs_nil) ?_
    exact ⟨rfl, M0.pick [] (by kernel_rfl)⟩
  · refine G_cond_f (b := ((x6550.length : Int) != (x6555.length : Int))) hc6560 (by kernel_rfl) ?_
    refine G_skip ?_
    refine N_then ?_
    refine G_seq ?_
    refine G_seq ?_
    refine G_region ?_
    refine W_run 1 [(0, .slice p6552 x6550.length c6553), (1, .slice p6557 x6555.length c6558), (5, .int .i64 0)] w (by kernel_rfl) ?_
    refine W_nil ?_
    refine N_then ?_
    obtain ⟨out6580, hw6581, hmo6582⟩ := gx_bind hm
    refine G_meet (fun a w' => ∃ (o6583 : Unit), out6580 = .inl o6583 ∧ Mem [] w w' [] ∧ Sat Tryz.f62.ntmps [] a) ?_ ?_
    · refine G_block ?_
      refine G_while (σ := Int) (ρ := (Unit) ⊕ (Bool)) (fun s6573 a w' => Mem [] w w' [] ∧ Sat Tryz.f62.ntmps [(0, .slice p6552 x6550.length c6553), (1, .slice p6557 x6555.length c6558), (5, .int .i64 s6573)] a) hw6581 (fun a ha => ⟨M0.pick [] (by kernel_rfl), ha.sub (by kernel_rfl)⟩) ?_
      clear hm
      intro s6573 x6574 hm hout6575 a6576 w6577 ⟨M6578, hS6579⟩
      refine G_use hS6579 ?_
      refine G_seq ?_
      refine G_seq ?_
      refine G_region ?_
      refine W_run 4 [(0, .slice p6552 x6550.length c6553), (1, .slice p6557 x6555.length c6558), (5, .int .i64 s6573), (14, .bool (decide (s6573 < (x6550.length : Int))))] w6577 (by kernel_rfl) ?_
      refine W_nil ?_
      refine N_then ?_
      rcases gx_bif hm with ⟨hc6584, hm⟩ | ⟨hc6584, hm⟩
      · refine G_cond_t (b := (decide (s6573 < (x6550.length : Int)))) hc6584 (by kernel_rfl) ?_
        refine G_skip ?_
        refine N_then ?_
        refine G_seq ?_
        refine G_block ?_
        refine G_seq ?_
        refine G_quiet (by kernel_rfl) (by kernel_rfl) M6578 ?_
        refine Z_runs [.slice p6552 x6550.length c6553, .int .i64 s6573] [(0, .slice p6552 x6550.length c6553), (1, .slice p6557 x6555.length c6558), (5, .int .i64 s6573), (17, .slice p6552 x6550.length c6553), (18, .int .i64 s6573)] (fun w_ => by kernel_rfl) (by kernel_rfl) ?_
        obtain ⟨y6585, hy6585, hm⟩ := gx_bind hm
        refine Z_val (elemP p6552 (s6573.toNat * 1)) (by kernel_rfl) (fun w_ M_ => (E_index (E := Gx.encB) _ _ _ x6550.length c6553 .i64 s6573 1 (y := y6585) rfl (by kernel_rfl) (by kernel_rfl) (by kernel_rfl) (h6554.mem0 M_) rfl hy6585)) ?_
        refine Z_val (.bool y6585) (by kernel_rfl) (fun w_ M_ => (E_loadE (E := Gx.encB) _ _ false 1 s6573 0 (s6573.toNat * 1) y6585 (.bool y6585) rfl (by kernel_rfl) (by kernel_rfl) (by kernel_rfl) (h6554.mem0 M_) hy6585 rfl)) ?_
        refine Z_runs [.slice p6557 x6555.length c6558, .int .i64 s6573] [(0, .slice p6552 x6550.length c6553), (1, .slice p6557 x6555.length c6558), (5, .int .i64 s6573), (20, .bool y6585), (21, .slice p6557 x6555.length c6558), (22, .int .i64 s6573)] (fun w_ => by kernel_rfl) (by kernel_rfl) ?_
        obtain ⟨y6586, hy6586, hm⟩ := gx_bind hm
        refine Z_val (elemP p6557 (s6573.toNat * 1)) (by kernel_rfl) (fun w_ M_ => (E_index (E := Gx.encB) _ _ _ x6555.length c6558 .i64 s6573 1 (y := y6586) rfl (by kernel_rfl) (by kernel_rfl) (by kernel_rfl) (h6559.mem0 M_) rfl hy6586)) ?_
        refine Z_val (.bool y6586) (by kernel_rfl) (fun w_ M_ => (E_loadE (E := Gx.encB) _ _ false 1 s6573 0 (s6573.toNat * 1) y6586 (.bool y6586) rfl (by kernel_rfl) (by kernel_rfl) (by kernel_rfl) (h6559.mem0 M_) hy6586 rfl)) ?_
        refine Z_runs [.bool (!(y6585 == y6586))] [(0, .slice p6552 x6550.length c6553), (1, .slice p6557 x6555.length c6558), (5, .int .i64 s6573), (25, .bool (!(y6585 == y6586)))] (fun w_ => by kernel_rfl) (by kernel_rfl) ?_
        refine Z_end fun w6587 M6588 => ?_
        refine N_then ?_
        rcases gx_bif hm with ⟨hc6589, hm⟩ | ⟨hc6589, hm⟩
        · refine G_cond_t (b := (!(y6585 == y6586))) hc6589 (by kernel_rfl) ?_
          refine G_seq ?_
          refine G_region ?_
          refine W_run 1 [(4, .bool false)] w6587 (by kernel_rfl) ?_
          refine W_nil ?_
          refine N_then ?_
          refine G_ret ?_
          refine N_block_ret ?_
          refine N_then_ret ?_
          refine N_then_ret ?_
          obtain rfl := Option.some.inj hm
          obtain rfl := hout6575 _ rfl
          have hm := hmo6582; simp only [Sum.elim_inr] at hm
          refine N_block_ret ?_
          refine N_meet_ret ?_
          refine N_then_ret ?_
          obtain rfl := Option.some.inj hm
          refine N_ret [.bool false] (RVs_cons (RV_tmp (by kernel_rfl)) RVs_nil) ?_
          exact ⟨rfl, M6588.pick [] (by kernel_rfl)⟩
        · refine G_cond_f (b := (!(y6585 == y6586))) hc6589 (by kernel_rfl) ?_
          refine G_skip ?_
          refine N_block ?_
          refine N_then ?_
          refine G_region ?_
          refine W_run 3 [(0, .slice p6552 x6550.length c6553), (1, .slice p6557 x6555.length c6558), (5, .int .i64 (w64 (s6573 + 1)))] w6587 (by kernel_rfl) ?_
          refine W_nil ?_
          obtain rfl := Option.some.inj hm
          exact N_loop fun a ha => ⟨_, rfl, M6588.pick [] (by kernel_rfl), ha.sub (by kernel_rfl)⟩
      · refine G_cond_f (b := (decide (s6573 < (x6550.length : Int)))) hc6584 (by kernel_rfl) ?_
        refine G_exit ?_
        refine N_then_exit ?_
        refine N_then_exit ?_
        refine N_block_eq ?_
        obtain rfl := Option.some.inj hm
        obtain rfl := hout6575 _ rfl
        exact N_meet fun a ha => ⟨_, rfl, M6578.pick [] (by kernel_rfl), ha.sub (by kernel_rfl)⟩
    · intro a6590 w6591 ⟨o6583, hout_, M6592, hS6593⟩
      refine N_use hS6593 ?_
      subst hout_
      have hm := hmo6582; simp only [Sum.elim_inl] at hm
      refine N_then ?_
      refine G_seq ?_
      refine G_region ?_
      refine W_run 1 [(4, .bool true)] w6591 (by kernel_rfl) ?_
      refine W_nil ?_
      refine N_then ?_
      refine G_ret ?_
      obtain rfl := Option.some.inj hm
      refine N_ret [.bool true] (RVs_cons (RV_tmp (by kernel_rfl)) RVs_nil) ?_
      exact ⟨rfl, M6592.pick [] (by kernel_rfl)⟩
theorem c_l_eqIntS (w : World) (x6671 : List Int) (p6673 : Option Addr) (c6674 : Nat) (h6675 : rdS Gx.encI w x6671 p6673 c6674) (x6676 : List Int) (p6678 : Option Addr) (c6679 : Nat) (h6680 : rdS Gx.encI w x6676 p6678 c6679) {r : Bool} (hm : M.l_eqIntS x6671 x6676 = some r) :
    Calls Tryz.prog 19 #[.slice p6673 x6671.length c6674, .slice p6678 x6676.length c6679] w fun e w' => e = .returned (.bool r) ∧ Mem [] w w' [] := by
  unfold M.l_eqIntS at hm
  refine C_enter Tryz.func19 rfl (by kernel_rfl) ?_
  have M0 := Mem.refl [] w
  refine G_seq ?_
  refine G_region ?_
  refine W_run 1 [(0, .slice p6673 x6671.length c6674), (1, .slice p6678 x6676.length c6679)] w (by kernel_rfl) ?_
  refine W_nil ?_
  refine N_then ?_
  refine G_seq ?_
  refine G_seq ?_
  refine G_region ?_
  refine W_run 5 [(0, .slice p6673 x6671.length c6674), (1, .slice p6678 x6676.length c6679), (10, .bool ((x6671.length : Int) != (x6676.length : Int)))] w (by kernel_rfl) ?_
  refine W_nil ?_
  refine N_then ?_
  rcases gx_bif hm with ⟨hc6681, hm⟩ | ⟨hc6681, hm⟩
  · refine G_cond_t (b := ((x6671.length : Int) != (x6676.length : Int))) hc6681 (by kernel_rfl) ?_
    refine G_seq ?_
    refine G_region ?_
    refine W_run 1 [(4, .bool false)] w (by kernel_rfl) ?_
    refine W_nil ?_
    refine N_then ?_
    refine G_ret ?_
    refine N_then_ret ?_
    obtain rfl := Option.some.inj hm
    refine N_ret [.bool false] (RVs_cons (RV_tmp (by kernel_rfl)) RVs_nil) ?_
    exact ⟨rfl, M0.pick [] (by kernel_rfl)⟩
  · refine G_cond_f (b := ((x6671.length : Int) != (x6676.length : Int))) hc6681 (by kernel_rfl) ?_
    refine G_skip ?_
    refine N_then ?_
    refine G_seq ?_
    refine G_seq ?_
    refine G_region ?_
    refine W_run 1 [(0, .slice p6673 x6671.length c6674), (1, .slice p6678 x6676.length c6679), (5, .int .i64 0)] w (by kernel_rfl) ?_
    refine W_nil ?_
    refine N_then ?_
    obtain ⟨out6701, hw6702, hmo6703⟩ := gx_bind hm
    refine G_meet (fun a w' => ∃ (o6704 : Unit), out6701 = .inl o6704 ∧ Mem [] w w' [] ∧ Sat Tryz.f19.ntmps [] a) ?_ ?_
    · refine G_block ?_
      refine G_while (σ := Int) (ρ := (Unit) ⊕ (Bool)) (fun s6694 a w' => Mem [] w w' [] ∧ Sat Tryz.f19.ntmps [(0, .slice p6673 x6671.length c6674), (1, .slice p6678 x6676.length c6679), (5, .int .i64 s6694)] a) hw6702 (fun a ha => ⟨M0.pick [] (by kernel_rfl), ha.sub (by kernel_rfl)⟩) ?_
      clear hm
      intro s6694 x6695 hm hout6696 a6697 w6698 ⟨M6699, hS6700⟩
      refine G_use hS6700 ?_
      refine G_seq ?_
      refine G_seq ?_
      refine G_region ?_
      refine W_run 4 [(0, .slice p6673 x6671.length c6674), (1, .slice p6678 x6676.length c6679), (5, .int .i64 s6694), (14, .bool (decide (s6694 < (x6671.length : Int))))] w6698 (by kernel_rfl) ?_
      refine W_nil ?_
      refine N_then ?_
      rcases gx_bif hm with ⟨hc6705, hm⟩ | ⟨hc6705, hm⟩
      · refine G_cond_t (b := (decide (s6694 < (x6671.length : Int)))) hc6705 (by kernel_rfl) ?_
        refine G_skip ?_
        refine N_then ?_
        refine G_seq ?_
        refine G_block ?_
        refine G_seq ?_
        refine G_quiet (by kernel_rfl) (by kernel_rfl) M6699 ?_
        refine Z_runs [.slice p6673 x6671.length c6674, .int .i64 s6694] [(0, .slice p6673 x6671.length c6674), (1, .slice p6678 x6676.length c6679), (5, .int .i64 s6694), (17, .slice p6673 x6671.length c6674), (18, .int .i64 s6694)] (fun w_ => by kernel_rfl) (by kernel_rfl) ?_
        obtain ⟨y6706, hy6706, hm⟩ := gx_bind hm
        refine Z_val (elemP p6673 (s6694.toNat * 1)) (by kernel_rfl) (fun w_ M_ => (E_index (E := Gx.encI) _ _ _ x6671.length c6674 .i64 s6694 1 (y := y6706) rfl (by kernel_rfl) (by kernel_rfl) (by kernel_rfl) (h6675.mem0 M_) rfl hy6706)) ?_
        refine Z_val (.int .i64 y6706) (by kernel_rfl) (fun w_ M_ => (E_loadE (E := Gx.encI) _ _ false 1 s6694 0 (s6694.toNat * 1) y6706 (.int .i64 y6706) rfl (by kernel_rfl) (by kernel_rfl) (by kernel_rfl) (h6675.mem0 M_) hy6706 rfl)) ?_
        refine Z_runs [.slice p6678 x6676.length c6679, .int .i64 s6694] [(0, .slice p6673 x6671.length c6674), (1, .slice p6678 x6676.length c6679), (5, .int .i64 s6694), (20, .int .i64 y6706), (21, .slice p6678 x6676.length c6679), (22, .int .i64 s6694)] (fun w_ => by kernel_rfl) (by kernel_rfl) ?_
        obtain ⟨y6707, hy6707, hm⟩ := gx_bind hm
        refine Z_val (elemP p6678 (s6694.toNat * 1)) (by kernel_rfl) (fun w_ M_ => (E_index (E := Gx.encI) _ _ _ x6676.length c6679 .i64 s6694 1 (y := y6707) rfl (by kernel_rfl) (by kernel_rfl) (by kernel_rfl) (h6680.mem0 M_) rfl hy6707)) ?_
        refine Z_val (.int .i64 y6707) (by kernel_rfl) (fun w_ M_ => (E_loadE (E := Gx.encI) _ _ false 1 s6694 0 (s6694.toNat * 1) y6707 (.int .i64 y6707) rfl (by kernel_rfl) (by kernel_rfl) (by kernel_rfl) (h6680.mem0 M_) hy6707 rfl)) ?_
        refine Z_runs [.bool (y6706 != y6707)] [(0, .slice p6673 x6671.length c6674), (1, .slice p6678 x6676.length c6679), (5, .int .i64 s6694), (25, .bool (y6706 != y6707))] (fun w_ => by kernel_rfl) (by kernel_rfl) ?_
        refine Z_end fun w6708 M6709 => ?_
        refine N_then ?_
        rcases gx_bif hm with ⟨hc6710, hm⟩ | ⟨hc6710, hm⟩
        · refine G_cond_t (b := (y6706 != y6707)) hc6710 (by kernel_rfl) ?_
          refine G_seq ?_
          refine G_region ?_
          refine W_run 1 [(4, .bool false)] w6708 (by kernel_rfl) ?_
          refine W_nil ?_
          refine N_then ?_
          refine G_ret ?_
          refine N_block_ret ?_
          refine N_then_ret ?_
          refine N_then_ret ?_
          obtain rfl := Option.some.inj hm
          obtain rfl := hout6696 _ rfl
          have hm := hmo6703; simp only [Sum.elim_inr] at hm
          refine N_block_ret ?_
          refine N_meet_ret ?_
          refine N_then_ret ?_
          obtain rfl := Option.some.inj hm
          refine N_ret [.bool false] (RVs_cons (RV_tmp (by kernel_rfl)) RVs_nil) ?_
          exact ⟨rfl, M6709.pick [] (by kernel_rfl)⟩
        · refine G_cond_f (b := (y6706 != y6707)) hc6710 (by kernel_rfl) ?_
          refine G_skip ?_
          refine N_block ?_
          refine N_then ?_
          refine G_region ?_
          refine W_run 3 [(0, .slice p6673 x6671.length c6674), (1, .slice p6678 x6676.length c6679), (5, .int .i64 (w64 (s6694 + 1)))] w6708 (by kernel_rfl) ?_
          refine W_nil ?_
          obtain rfl := Option.some.inj hm
          exact N_loop fun a ha => ⟨_, rfl, M6709.pick [] (by kernel_rfl), ha.sub (by kernel_rfl)⟩
      · refine G_cond_f (b := (decide (s6694 < (x6671.length : Int)))) hc6705 (by kernel_rfl) ?_
        refine G_exit ?_
        refine N_then_exit ?_
        refine N_then_exit ?_
        refine N_block_eq ?_
        obtain rfl := Option.some.inj hm
        obtain rfl := hout6696 _ rfl
        exact N_meet fun a ha => ⟨_, rfl, M6699.pick [] (by kernel_rfl), ha.sub (by kernel_rfl)⟩
    · intro a6711 w6712 ⟨o6704, hout_, M6713, hS6714⟩
      refine N_use hS6714 ?_
      subst hout_
      have hm := hmo6703; simp only [Sum.elim_inl] at hm
      refine N_then ?_
      refine G_seq ?_
      refine G_region ?_
      refine W_run 1 [(4, .bool true)] w6712 (by kernel_rfl) ?_
      refine W_nil ?_
      refine N_then ?_
      refine G_ret ?_
      obtain rfl := Option.some.inj hm
      refine N_ret [.bool true] (RVs_cons (RV_tmp (by kernel_rfl)) RVs_nil) ?_
      exact ⟨rfl, M6713.pick [] (by kernel_rfl)⟩
end Go.Proofs.YtllhajkgkghhdaaGreat
