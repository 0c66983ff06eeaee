/- The walks, printed by program: whenever the model gives r, the call returns r. Part 4. -/
import Derived.Test.YtopnablbecepjaaRM
import Derived.Test.YtopnablbecepjaaProg
import Derived.Test.YtopnablbecepjaaRC3
set_option linter.unusedVariables false
set_option maxRecDepth 100000
set_option maxHeartbeats 4000000
namespace Go.Proofs.Ytopnablbecepjaa
open Go.Gx
theorem c_l_FnRings (w : World) (x4354 : List Int) (p4356 : Option Addr) (c4357 : Nat) (h4358 : rdS encU8 w x4354 p4356 c4357) {r : Bool} (hm : M.l_FnRings x4354 = some r) :
    Calls Try.prog 13 #[.slice p4356 x4354.length c4357] w fun e w' => e = .returned (.bool r) ∧ Mem [] w w' [] := by
  unfold M.l_FnRings at hm
  refine C_enter Try.func13 rfl (by kernel_rfl) ?_
  have M0 := Mem.refl [] w
  refine G_seq ?_
  refine G_region ?_
  refine W_run 1 [(0, .slice p4356 x4354.length c4357)] w (by kernel_rfl) ?_
  refine W_nil ?_
  refine N_then ?_
  refine G_seq ?_
  refine G_seq ?_
  refine G_region ?_
  refine W_run 1 [(0, .slice p4356 x4354.length c4357), (48, .slice p4356 x4354.length c4357)] w (by kernel_rfl) ?_
  obtain ⟨r4359, hr4359, hm⟩ := gx_bind hm
  refine W_call 41 #[.slice p4356 x4354.length c4357] (by kernel_rfl) (by kernel_rfl) ?_
  refine (c_l_vBig w x4354 p4356 c4357 (h4358.mem0 M0) hr4359).mono ?_
  rintro e_ w4360 ⟨rfl, K4361⟩
  have M4362 := M0.call0 K4361
  refine ⟨_, rfl, ?_⟩
  refine W_nil ?_
  refine N_then ?_
  rcases gx_bif hm with ⟨hc4363, hm⟩ | ⟨hc4363, hm⟩
  · refine G_cond_t (b := r4359) hc4363 (by kernel_rfl) ?_
    refine G_seq ?_
    refine G_region ?_
    refine W_run 1 [(2, .bool true)] w4360 (by kernel_rfl) ?_
    refine W_nil ?_
    refine N_then ?_
    refine G_ret ?_
    refine N_then_ret ?_
    obtain rfl := Option.some.inj hm
    refine N_ret [.bool true] (RVs_cons (RV_tmp (by kernel_rfl)) RVs_nil) ?_
    exact ⟨rfl, M4362.pick [] (by kernel_rfl)⟩
  · refine G_cond_f (b := r4359) hc4363 (by kernel_rfl) ?_
    refine G_skip ?_
    refine N_then ?_
    refine G_seq ?_
    refine G_region ?_
    refine W_run 1 [(0, .slice p4356 x4354.length c4357), (51, .slice p4356 x4354.length c4357)] w4360 (by kernel_rfl) ?_
    obtain ⟨r4398, hr4398, hm⟩ := gx_bind hm
    refine W_call 48 #[.slice p4356 x4354.length c4357] (by kernel_rfl) (by kernel_rfl) ?_
    refine (c_s_DrawPutWord w4360 x4354 p4356 c4357 (h4358.mem0 M4362) hr4398).mono ?_
    rintro e_ w4404 ⟨p4400, c4401, sg4402, rfl, ho4403, K4405⟩
    have M4406 := M4362.call K4405
    refine ⟨_, rfl, ?_⟩
    refine W_run 3 [(0, .slice p4356 x4354.length c4357), (53, .agg #[.slice p4400 r4398.1.Items.length c4401, .int .i64 r4398.1.Head, .int .i64 r4398.1.Tail]), (54, .int .i64 r4398.2)] w4404 (by kernel_rfl) ?_
    refine W_new (fun b => .pointer (some ⟨b, 0, none⟩)) (.cells ⟨[.slice none 0 0, .int .i64 0, .int .i64 0]⟩ 27 (0, 0)) M4406 rfl (by kernel_rfl) (by kernel_rfl) ?_
    intro b4409 w4410 M4411
    refine W_store _ _ _ true 3 b4409 0 [.slice none 0 0, .int .i64 0, .int .i64 0] 27 (.agg #[.slice p4400 r4398.1.Items.length c4401, .int .i64 r4398.1.Head, .int .i64 r4398.1.Tail]) 1 [.slice p4400 r4398.1.Items.length c4401, .int .i64 r4398.1.Head, .int .i64 r4398.1.Tail] M4411 (by kernel_rfl) rfl (by kernel_rfl) (by kernel_rfl) (by kernel_rfl) (by kernel_rfl) (by kernel_rfl) (by kernel_rfl) (by kernel_rfl) (by kernel_rfl) ?_
    intro w4412 M4413
    refine W_run 1 [(0, .slice p4356 x4354.length c4357), (3, .pointer (some ⟨b4409, 0, none⟩)), (4, .int .i64 r4398.2)] w4412 (by kernel_rfl) ?_
    refine W_nil ?_
    refine N_then ?_
    refine G_seq ?_
    refine G_region ?_
    refine W_val (.agg #[.slice p4400 r4398.1.Items.length c4401, .int .i64 r4398.1.Head, .int .i64 r4398.1.Tail]) w4412 (by kernel_rfl) (E_load (e := 27) (fr := (0, 0)) _ _ true 3 b4409 0 [.slice p4400 r4398.1.Items.length c4401, .int .i64 r4398.1.Head, .int .i64 r4398.1.Tail] (.agg #[.slice p4400 r4398.1.Items.length c4401, .int .i64 r4398.1.Head, .int .i64 r4398.1.Tail]) rfl (by kernel_rfl) (by kernel_rfl) (by kernel_rfl) (M4413.blk 1 (b := b4409) (o := .cells ⟨[.slice p4400 r4398.1.Items.length c4401, .int .i64 r4398.1.Head, .int .i64 r4398.1.Tail]⟩ 27 (0, 0)) (by kernel_rfl))) ?_
    refine W_run 1 [(0, .slice p4356 x4354.length c4357), (3, .pointer (some ⟨b4409, 0, none⟩)), (4, .int .i64 r4398.2), (56, .agg #[.slice p4400 r4398.1.Items.length c4401, .int .i64 r4398.1.Head, .int .i64 r4398.1.Tail]), (57, .int .i64 r4398.2)] w4412 (by kernel_rfl) ?_
    obtain ⟨r4668, hr4668, hm⟩ := gx_bind hm
    refine W_call 37 #[.agg #[.slice p4400 r4398.1.Items.length c4401, .int .i64 r4398.1.Head, .int .i64 r4398.1.Tail], .int .i64 r4398.2] (by kernel_rfl) (by kernel_rfl) ?_
    refine (c_i_PutWord w4412 r4398.1 p4400 c4401 (ho4403.rd M4413 0 (by kernel_rfl)) r4398.2 hr4668).mono ?_
    rintro e_ w4674 ⟨p4670, c4671, sg4672, rfl, ho4673, K4675⟩
    have M4676 := M4413.call K4675
    refine ⟨_, rfl, ?_⟩
    refine W_run 3 [(0, .slice p4356 x4354.length c4357), (3, .pointer (some ⟨b4409, 0, none⟩)), (4, .int .i64 r4398.2), (59, .agg #[.slice p4670 r4668.1.Items.length c4671, .int .i64 r4668.1.Head, .int .i64 r4668.1.Tail]), (60, .bool r4668.2)] w4674 (by kernel_rfl) ?_
    refine W_new (fun b => .pointer (some ⟨b, 0, none⟩)) (.cells ⟨[.slice none 0 0, .int .i64 0, .int .i64 0]⟩ 27 (0, 0)) M4676 rfl (by kernel_rfl) (by kernel_rfl) ?_
    intro b4679 w4680 M4681
    refine W_store _ _ _ true 3 b4679 0 [.slice none 0 0, .int .i64 0, .int .i64 0] 27 (.agg #[.slice p4670 r4668.1.Items.length c4671, .int .i64 r4668.1.Head, .int .i64 r4668.1.Tail]) 3 [.slice p4670 r4668.1.Items.length c4671, .int .i64 r4668.1.Head, .int .i64 r4668.1.Tail] M4681 (by kernel_rfl) rfl (by kernel_rfl) (by kernel_rfl) (by kernel_rfl) (by kernel_rfl) (by kernel_rfl) (by kernel_rfl) (by kernel_rfl) (by kernel_rfl) ?_
    intro w4682 M4683
    refine W_run 1 [(0, .slice p4356 x4354.length c4357), (3, .pointer (some ⟨b4409, 0, none⟩)), (4, .int .i64 r4398.2), (5, .pointer (some ⟨b4679, 0, none⟩)), (6, .bool r4668.2)] w4682 (by kernel_rfl) ?_
    refine W_nil ?_
    refine N_then ?_
    refine G_seq ?_
    refine G_seq ?_
    refine G_region ?_
    refine W_val (.agg #[.slice p4400 r4398.1.Items.length c4401, .int .i64 r4398.1.Head, .int .i64 r4398.1.Tail]) w4682 (by kernel_rfl) (E_load (e := 27) (fr := (0, 0)) _ _ true 3 b4409 0 [.slice p4400 r4398.1.Items.length c4401, .int .i64 r4398.1.Head, .int .i64 r4398.1.Tail] (.agg #[.slice p4400 r4398.1.Items.length c4401, .int .i64 r4398.1.Head, .int .i64 r4398.1.Tail]) rfl (by kernel_rfl) (by kernel_rfl) (by kernel_rfl) (M4683.blk 1 (b := b4409) (o := .cells ⟨[.slice p4400 r4398.1.Items.length c4401, .int .i64 r4398.1.Head, .int .i64 r4398.1.Tail]⟩ 27 (0, 0)) (by kernel_rfl))) ?_
    refine W_run 1 [(0, .slice p4356 x4354.length c4357), (3, .pointer (some ⟨b4409, 0, none⟩)), (4, .int .i64 r4398.2), (5, .pointer (some ⟨b4679, 0, none⟩)), (6, .bool r4668.2), (62, .agg #[.slice p4400 r4398.1.Items.length c4401, .int .i64 r4398.1.Head, .int .i64 r4398.1.Tail]), (63, .int .i64 r4398.2)] w4682 (by kernel_rfl) ?_
    obtain ⟨r4754, hr4754, hm⟩ := gx_bind hm
    refine W_call 36 #[.agg #[.slice p4400 r4398.1.Items.length c4401, .int .i64 r4398.1.Head, .int .i64 r4398.1.Tail], .int .i64 r4398.2] (by kernel_rfl) (by kernel_rfl) ?_
    refine (c_s_PutWord w4682 r4398.1 p4400 c4401 (ho4403.rd M4683 0 (by kernel_rfl)) r4398.2 hr4754).mono ?_
    rintro e_ w4760 ⟨p4756, c4757, sg4758, rfl, ho4759, K4761⟩
    have M4762 := M4683.call K4761
    refine ⟨_, rfl, ?_⟩
    refine W_run 3 [(0, .slice p4356 x4354.length c4357), (3, .pointer (some ⟨b4409, 0, none⟩)), (4, .int .i64 r4398.2), (5, .pointer (some ⟨b4679, 0, none⟩)), (6, .bool r4668.2), (65, .agg #[.slice p4756 r4754.1.Items.length c4757, .int .i64 r4754.1.Head, .int .i64 r4754.1.Tail]), (66, .bool r4754.2)] w4760 (by kernel_rfl) ?_
    refine W_new (fun b => .pointer (some ⟨b, 0, none⟩)) (.cells ⟨[.slice none 0 0, .int .i64 0, .int .i64 0]⟩ 27 (0, 0)) M4762 rfl (by kernel_rfl) (by kernel_rfl) ?_
    intro b4765 w4766 M4767
    refine W_store _ _ _ true 3 b4765 0 [.slice none 0 0, .int .i64 0, .int .i64 0] 27 (.agg #[.slice p4756 r4754.1.Items.length c4757, .int .i64 r4754.1.Head, .int .i64 r4754.1.Tail]) 5 [.slice p4756 r4754.1.Items.length c4757, .int .i64 r4754.1.Head, .int .i64 r4754.1.Tail] M4767 (by kernel_rfl) rfl (by kernel_rfl) (by kernel_rfl) (by kernel_rfl) (by kernel_rfl) (by kernel_rfl) (by kernel_rfl) (by kernel_rfl) (by kernel_rfl) ?_
    intro w4768 M4769
    refine W_run 1 [(0, .slice p4356 x4354.length c4357), (3, .pointer (some ⟨b4409, 0, none⟩)), (4, .int .i64 r4398.2), (5, .pointer (some ⟨b4679, 0, none⟩)), (6, .bool r4668.2), (7, .pointer (some ⟨b4765, 0, none⟩)), (8, .bool r4754.2)] w4768 (by kernel_rfl) ?_
    refine W_nil ?_
    refine N_then ?_
    refine G_seq ?_
    obtain ⟨o4813, ho4814, hm4815⟩ := gx_bind hm
    refine G_meet (fun a w' => Mem [] w w' [sg4402, [(b4409, .cells ⟨[.slice p4400 r4398.1.Items.length c4401, .int .i64 r4398.1.Head, .int .i64 r4398.1.Tail]⟩ 27 (0, 0))], sg4672, [(b4679, .cells ⟨[.slice p4670 r4668.1.Items.length c4671, .int .i64 r4668.1.Head, .int .i64 r4668.1.Tail]⟩ 27 (0, 0))]] ∧ Sat Try.f13.ntmps [(0, .slice p4356 x4354.length c4357), (3, .pointer (some ⟨b4409, 0, none⟩)), (4, .int .i64 r4398.2), (5, .pointer (some ⟨b4679, 0, none⟩)), (6, .bool r4668.2), (90, .bool o4813)] a) ?_ ?_
    · have hm := ho4814
      refine G_quiet (by kernel_rfl) (by kernel_rfl) M4769 ?_
      refine Z_runs [.bool r4668.2, .bool r4754.2, .bool (!(r4668.2 == r4754.2)), .bool (!(r4668.2 == r4754.2))] [(0, .slice p4356 x4354.length c4357), (3, .pointer (some ⟨b4409, 0, none⟩)), (4, .int .i64 r4398.2), (5, .pointer (some ⟨b4679, 0, none⟩)), (6, .bool r4668.2), (7, .pointer (some ⟨b4765, 0, none⟩)), (70, .bool (!(r4668.2 == r4754.2)))] (fun w_ => by kernel_rfl) (by kernel_rfl) ?_
      rcases gx_bif hm with ⟨hc4816, hm⟩ | ⟨hc4816, hm⟩
      · refine Z_known 70 true (by kernel_rfl) hc4816 ?_
        refine Z_runs [undef, undef, undef, undef, .bool true, .bool true, undef, undef, undef, undef, undef, .bool true, .bool true, undef, undef, undef, undef, undef, undef, .bool true] [(0, .slice p4356 x4354.length c4357), (3, .pointer (some ⟨b4409, 0, none⟩)), (4, .int .i64 r4398.2), (5, .pointer (some ⟨b4679, 0, none⟩)), (6, .bool r4668.2), (90, .bool true)] (fun w_ => by kernel_rfl) (by kernel_rfl) ?_
        refine Z_end fun w4817 M4818 => ?_
        obtain rfl := Option.some.inj hm
        exact N_meet fun a ha => ⟨M4818.pick [0, 1, 2, 3] (by kernel_rfl), ha.sub (by kernel_rfl)⟩
      · refine Z_known 70 false (by kernel_rfl) hc4816 ?_
        refine Z_val (.agg #[.slice p4670 r4668.1.Items.length c4671, .int .i64 r4668.1.Head, .int .i64 r4668.1.Tail]) (by kernel_rfl) (fun w_ M_ => (E_load (e := 27) (fr := (0, 0)) _ _ true 3 b4679 0 [.slice p4670 r4668.1.Items.length c4671, .int .i64 r4668.1.Head, .int .i64 r4668.1.Tail] (.agg #[.slice p4670 r4668.1.Items.length c4671, .int .i64 r4668.1.Head, .int .i64 r4668.1.Tail]) rfl (by kernel_rfl) (by kernel_rfl) (by kernel_rfl) (M_.blk 3 (b := b4679) (o := .cells ⟨[.slice p4670 r4668.1.Items.length c4671, .int .i64 r4668.1.Head, .int .i64 r4668.1.Tail]⟩ 27 (0, 0)) (by kernel_rfl)))) ?_
        refine Z_val (.agg #[.slice p4756 r4754.1.Items.length c4757, .int .i64 r4754.1.Head, .int .i64 r4754.1.Tail]) (by kernel_rfl) (fun w_ M_ => (E_load (e := 27) (fr := (0, 0)) _ _ true 3 b4765 0 [.slice p4756 r4754.1.Items.length c4757, .int .i64 r4754.1.Head, .int .i64 r4754.1.Tail] (.agg #[.slice p4756 r4754.1.Items.length c4757, .int .i64 r4754.1.Head, .int .i64 r4754.1.Tail]) rfl (by kernel_rfl) (by kernel_rfl) (by kernel_rfl) (M_.blk 5 (b := b4765) (o := .cells ⟨[.slice p4756 r4754.1.Items.length c4757, .int .i64 r4754.1.Head, .int .i64 r4754.1.Tail]⟩ 27 (0, 0)) (by kernel_rfl)))) ?_
        obtain ⟨r4819, hr4819, hm⟩ := gx_bind hm
        refine Z_call 44 #[.agg #[.slice p4670 r4668.1.Items.length c4671, .int .i64 r4668.1.Head, .int .i64 r4668.1.Tail], .agg #[.slice p4756 r4754.1.Items.length c4757, .int .i64 r4754.1.Head, .int .i64 r4754.1.Tail]] (.bool r4819) (by kernel_rfl) (fun w_ => by kernel_rfl) (fun w_ M_ => (c_l_vRing w_ r4668.1 p4670 c4671 (ho4673.rd M_ 2 (by kernel_rfl)) r4754.1 p4756 c4757 (ho4759.rd M_ 4 (by kernel_rfl)) hr4819).mono fun e w2_ h_ => ⟨h_.1, M_.call0 h_.2⟩) ?_
        refine Z_runs [.bool (!r4819), .bool (!r4819), .bool (!r4819)] [(0, .slice p4356 x4354.length c4357), (3, .pointer (some ⟨b4409, 0, none⟩)), (4, .int .i64 r4398.2), (5, .pointer (some ⟨b4679, 0, none⟩)), (6, .bool r4668.2), (76, .bool (!r4819))] (fun w_ => by kernel_rfl) (by kernel_rfl) ?_
        rcases gx_bif hm with ⟨hc4823, hm⟩ | ⟨hc4823, hm⟩
        · refine Z_known 76 true (by kernel_rfl) hc4823 ?_
          refine Z_runs [undef, undef, undef, undef, undef, .bool true, .bool true, undef, undef, undef, undef, undef, undef, .bool true] [(0, .slice p4356 x4354.length c4357), (3, .pointer (some ⟨b4409, 0, none⟩)), (4, .int .i64 r4398.2), (5, .pointer (some ⟨b4679, 0, none⟩)), (6, .bool r4668.2), (90, .bool true)] (fun w_ => by kernel_rfl) (by kernel_rfl) ?_
          refine Z_end fun w4824 M4825 => ?_
          obtain rfl := Option.some.inj hm
          exact N_meet fun a ha => ⟨M4825.pick [0, 1, 2, 3] (by kernel_rfl), ha.sub (by kernel_rfl)⟩
        · refine Z_known 76 false (by kernel_rfl) hc4823 ?_
          refine Z_val (.agg #[.slice p4400 r4398.1.Items.length c4401, .int .i64 r4398.1.Head, .int .i64 r4398.1.Tail]) (by kernel_rfl) (fun w_ M_ => (E_load (e := 27) (fr := (0, 0)) _ _ true 3 b4409 0 [.slice p4400 r4398.1.Items.length c4401, .int .i64 r4398.1.Head, .int .i64 r4398.1.Tail] (.agg #[.slice p4400 r4398.1.Items.length c4401, .int .i64 r4398.1.Head, .int .i64 r4398.1.Tail]) rfl (by kernel_rfl) (by kernel_rfl) (by kernel_rfl) (M_.blk 1 (b := b4409) (o := .cells ⟨[.slice p4400 r4398.1.Items.length c4401, .int .i64 r4398.1.Head, .int .i64 r4398.1.Tail]⟩ 27 (0, 0)) (by kernel_rfl)))) ?_
          obtain ⟨r4826, hr4826, hm⟩ := gx_bind hm
          refine Z_call 24 #[.agg #[.slice p4400 r4398.1.Items.length c4401, .int .i64 r4398.1.Head, .int .i64 r4398.1.Tail]] (.bool r4826) (by kernel_rfl) (fun w_ => by kernel_rfl) (fun w_ M_ => (c_i_IsRing w_ r4398.1 p4400 c4401 (ho4403.rd M_ 0 (by kernel_rfl)) hr4826).mono fun e w2_ h_ => ⟨h_.1, M_.call0 h_.2⟩) ?_
          refine Z_val (.agg #[.slice p4400 r4398.1.Items.length c4401, .int .i64 r4398.1.Head, .int .i64 r4398.1.Tail]) (by kernel_rfl) (fun w_ M_ => (E_load (e := 27) (fr := (0, 0)) _ _ true 3 b4409 0 [.slice p4400 r4398.1.Items.length c4401, .int .i64 r4398.1.Head, .int .i64 r4398.1.Tail] (.agg #[.slice p4400 r4398.1.Items.length c4401, .int .i64 r4398.1.Head, .int .i64 r4398.1.Tail]) rfl (by kernel_rfl) (by kernel_rfl) (by kernel_rfl) (M_.blk 1 (b := b4409) (o := .cells ⟨[.slice p4400 r4398.1.Items.length c4401, .int .i64 r4398.1.Head, .int .i64 r4398.1.Tail]⟩ 27 (0, 0)) (by kernel_rfl)))) ?_
          obtain ⟨r4830, hr4830, hm⟩ := gx_bind hm
          refine Z_call 22 #[.agg #[.slice p4400 r4398.1.Items.length c4401, .int .i64 r4398.1.Head, .int .i64 r4398.1.Tail]] (.bool r4830) (by kernel_rfl) (fun w_ => by kernel_rfl) (fun w_ M_ => (c_s_IsRing w_ r4398.1 p4400 c4401 (ho4403.rd M_ 0 (by kernel_rfl)) hr4830).mono fun e w2_ h_ => ⟨h_.1, M_.call0 h_.2⟩) ?_
          refine Z_runs [.bool (!(r4826 == r4830)), .bool (!(r4826 == r4830)), .bool (!(r4826 == r4830))] [(0, .slice p4356 x4354.length c4357), (3, .pointer (some ⟨b4409, 0, none⟩)), (4, .int .i64 r4398.2), (5, .pointer (some ⟨b4679, 0, none⟩)), (6, .bool r4668.2), (83, .bool (!(r4826 == r4830)))] (fun w_ => by kernel_rfl) (by kernel_rfl) ?_
          rcases gx_bif hm with ⟨hc4834, hm⟩ | ⟨hc4834, hm⟩
          · refine Z_known 83 true (by kernel_rfl) hc4834 ?_
            refine Z_runs [undef, undef, undef, undef, undef, undef, .bool true] [(0, .slice p4356 x4354.length c4357), (3, .pointer (some ⟨b4409, 0, none⟩)), (4, .int .i64 r4398.2), (5, .pointer (some ⟨b4679, 0, none⟩)), (6, .bool r4668.2), (90, .bool true)] (fun w_ => by kernel_rfl) (by kernel_rfl) ?_
            refine Z_end fun w4835 M4836 => ?_
            obtain rfl := Option.some.inj hm
            exact N_meet fun a ha => ⟨M4836.pick [0, 1, 2, 3] (by kernel_rfl), ha.sub (by kernel_rfl)⟩
          · refine Z_known 83 false (by kernel_rfl) hc4834 ?_
            refine Z_runs [.bool r4668.2, .bool r4668.2] [(0, .slice p4356 x4354.length c4357), (3, .pointer (some ⟨b4409, 0, none⟩)), (4, .int .i64 r4398.2), (5, .pointer (some ⟨b4679, 0, none⟩)), (6, .bool r4668.2), (83, .bool false), (85, .bool r4668.2)] (fun w_ => by kernel_rfl) (by kernel_rfl) ?_
            rcases gx_bif hm with ⟨hc4837, hm⟩ | ⟨hc4837, hm⟩
            · refine Z_known 85 true (by kernel_rfl) hc4837 ?_
              refine Z_val (.agg #[.slice p4670 r4668.1.Items.length c4671, .int .i64 r4668.1.Head, .int .i64 r4668.1.Tail]) (by kernel_rfl) (fun w_ M_ => (E_load (e := 27) (fr := (0, 0)) _ _ true 3 b4679 0 [.slice p4670 r4668.1.Items.length c4671, .int .i64 r4668.1.Head, .int .i64 r4668.1.Tail] (.agg #[.slice p4670 r4668.1.Items.length c4671, .int .i64 r4668.1.Head, .int .i64 r4668.1.Tail]) rfl (by kernel_rfl) (by kernel_rfl) (by kernel_rfl) (M_.blk 3 (b := b4679) (o := .cells ⟨[.slice p4670 r4668.1.Items.length c4671, .int .i64 r4668.1.Head, .int .i64 r4668.1.Tail]⟩ 27 (0, 0)) (by kernel_rfl)))) ?_
              obtain ⟨r4838, hr4838, hm⟩ := gx_bind hm
              refine Z_call 24 #[.agg #[.slice p4670 r4668.1.Items.length c4671, .int .i64 r4668.1.Head, .int .i64 r4668.1.Tail]] (.bool r4838) (by kernel_rfl) (fun w_ => by kernel_rfl) (fun w_ M_ => (c_i_IsRing w_ r4668.1 p4670 c4671 (ho4673.rd M_ 2 (by kernel_rfl)) hr4838).mono fun e w2_ h_ => ⟨h_.1, M_.call0 h_.2⟩) ?_
              refine Z_runs [.bool (!r4838), .bool (!r4838), .bool (!r4838)] [(0, .slice p4356 x4354.length c4357), (3, .pointer (some ⟨b4409, 0, none⟩)), (4, .int .i64 r4398.2), (5, .pointer (some ⟨b4679, 0, none⟩)), (6, .bool r4668.2), (90, .bool (!r4838))] (fun w_ => by kernel_rfl) (by kernel_rfl) ?_
              refine Z_end fun w4842 M4843 => ?_
              obtain rfl := Option.some.inj hm
              exact N_meet fun a ha => ⟨M4843.pick [0, 1, 2, 3] (by kernel_rfl), ha.sub (by kernel_rfl)⟩
            · refine Z_known 85 false (by kernel_rfl) hc4837 ?_
              refine Z_runs [undef, undef, undef, .bool false, .bool false] [(0, .slice p4356 x4354.length c4357), (3, .pointer (some ⟨b4409, 0, none⟩)), (4, .int .i64 r4398.2), (5, .pointer (some ⟨b4679, 0, none⟩)), (6, .bool r4668.2), (90, .bool false)] (fun w_ => by kernel_rfl) (by kernel_rfl) ?_
              refine Z_end fun w4844 M4845 => ?_
              obtain rfl := Option.some.inj hm
              exact N_meet fun a ha => ⟨M4845.pick [0, 1, 2, 3] (by kernel_rfl), ha.sub (by kernel_rfl)⟩
    · intro a4848 w4846 ⟨M4847, hS4849⟩
      refine N_use hS4849 ?_
      have hm := hm4815
      refine N_then ?_
      rcases gx_bif hm with ⟨hc4850, hm⟩ | ⟨hc4850, hm⟩
      · refine G_cond_t (b := o4813) hc4850 (by kernel_rfl) ?_
        refine G_seq ?_
        refine G_region ?_
        refine W_run 1 [(2, .bool false)] w4846 (by kernel_rfl) ?_
        refine W_nil ?_
        refine N_then ?_
        refine G_ret ?_
        refine N_then_ret ?_
        obtain rfl := Option.some.inj hm
        refine N_ret [.bool false] (RVs_cons (RV_tmp (by kernel_rfl)) RVs_nil) ?_
        exact ⟨rfl, M4847.pick [] (by kernel_rfl)⟩
      · refine G_cond_f (b := o4813) hc4850 (by kernel_rfl) ?_
        refine G_skip ?_
        refine N_then ?_
        refine G_seq ?_
        refine G_seq ?_
        refine G_region ?_
        refine W_run 1 [(0, .slice p4356 x4354.length c4357), (3, .pointer (some ⟨b4409, 0, none⟩)), (4, .int .i64 r4398.2), (5, .pointer (some ⟨b4679, 0, none⟩)), (91, .bool r4668.2)] w4846 (by kernel_rfl) ?_
        refine W_nil ?_
        refine N_then ?_
        obtain ⟨out4953, ho4951, hm4952⟩ := gx_bind hm
        refine G_meet (fun a w' => ∃ (o4950 : Unit), out4953 = .inl o4950 ∧ Mem [] w w' [] ∧ Sat Try.f13.ntmps [(0, .slice p4356 x4354.length c4357)] a) ?_ ?_
        · have hm := ho4951
          rcases gx_bif hm with ⟨hc4954, hm⟩ | ⟨hc4954, hm⟩
          · refine G_cond_t (b := r4668.2) hc4954 (by kernel_rfl) ?_
            refine G_seq ?_
            refine G_region ?_
            refine W_val (.agg #[.slice p4400 r4398.1.Items.length c4401, .int .i64 r4398.1.Head, .int .i64 r4398.1.Tail]) w4846 (by kernel_rfl) (E_load (e := 27) (fr := (0, 0)) _ _ true 3 b4409 0 [.slice p4400 r4398.1.Items.length c4401, .int .i64 r4398.1.Head, .int .i64 r4398.1.Tail] (.agg #[.slice p4400 r4398.1.Items.length c4401, .int .i64 r4398.1.Head, .int .i64 r4398.1.Tail]) rfl (by kernel_rfl) (by kernel_rfl) (by kernel_rfl) (M4847.blk 1 (b := b4409) (o := .cells ⟨[.slice p4400 r4398.1.Items.length c4401, .int .i64 r4398.1.Head, .int .i64 r4398.1.Tail]⟩ 27 (0, 0)) (by kernel_rfl))) ?_
            obtain ⟨r4955, hr4955, hm⟩ := gx_bind hm
            refine W_call 26 #[.agg #[.slice p4400 r4398.1.Items.length c4401, .int .i64 r4398.1.Head, .int .i64 r4398.1.Tail]] (by kernel_rfl) (by kernel_rfl) ?_
            refine (c_i_RingWords w4846 r4398.1 p4400 c4401 (ho4403.rd M4847 0 (by kernel_rfl)) hr4955).mono ?_
            rintro e_ w4961 ⟨p4957, c4958, sg4959, rfl, ho4960, K4962⟩
            have M4963 := M4847.call K4962
            refine ⟨_, rfl, ?_⟩
            refine W_run 5 [(0, .slice p4356 x4354.length c4357), (4, .int .i64 r4398.2), (5, .pointer (some ⟨b4679, 0, none⟩)), (9, .slice p4957 r4955.1.length c4958), (10, .bool r4955.2)] w4961 (by kernel_rfl) ?_
            refine W_nil ?_
            refine N_then ?_
            refine G_seq ?_
            refine G_region ?_
            refine W_val (.agg #[.slice p4670 r4668.1.Items.length c4671, .int .i64 r4668.1.Head, .int .i64 r4668.1.Tail]) w4961 (by kernel_rfl) (E_load (e := 27) (fr := (0, 0)) _ _ true 3 b4679 0 [.slice p4670 r4668.1.Items.length c4671, .int .i64 r4668.1.Head, .int .i64 r4668.1.Tail] (.agg #[.slice p4670 r4668.1.Items.length c4671, .int .i64 r4668.1.Head, .int .i64 r4668.1.Tail]) rfl (by kernel_rfl) (by kernel_rfl) (by kernel_rfl) (M4963.blk 3 (b := b4679) (o := .cells ⟨[.slice p4670 r4668.1.Items.length c4671, .int .i64 r4668.1.Head, .int .i64 r4668.1.Tail]⟩ 27 (0, 0)) (by kernel_rfl))) ?_
            obtain ⟨r4964, hr4964, hm⟩ := gx_bind hm
            refine W_call 26 #[.agg #[.slice p4670 r4668.1.Items.length c4671, .int .i64 r4668.1.Head, .int .i64 r4668.1.Tail]] (by kernel_rfl) (by kernel_rfl) ?_
            refine (c_i_RingWords w4961 r4668.1 p4670 c4671 (ho4673.rd M4963 2 (by kernel_rfl)) hr4964).mono ?_
            rintro e_ w4970 ⟨p4966, c4967, sg4968, rfl, ho4969, K4971⟩
            have M4972 := M4963.call K4971
            refine ⟨_, rfl, ?_⟩
            refine W_run 5 [(0, .slice p4356 x4354.length c4357), (4, .int .i64 r4398.2), (9, .slice p4957 r4955.1.length c4958), (10, .bool r4955.2), (11, .slice p4966 r4964.1.length c4967), (12, .bool r4964.2)] w4970 (by kernel_rfl) ?_
            refine W_nil ?_
            refine N_then ?_
            refine G_seq ?_
            obtain ⟨o5009, ho5010, hm5011⟩ := gx_bind hm
            refine G_meet (fun a w' => Mem [] w w' [] ∧ Sat Try.f13.ntmps [(0, .slice p4356 x4354.length c4357), (118, .bool o5009)] a) ?_ ?_
            · have hm := ho5010
              refine G_region ?_
              refine W_run 3 [(0, .slice p4356 x4354.length c4357), (4, .int .i64 r4398.2), (9, .slice p4957 r4955.1.length c4958), (11, .slice p4966 r4964.1.length c4967), (12, .bool r4964.2), (104, .bool (!r4955.2))] w4970 (by kernel_rfl) ?_
              rcases gx_bif hm with ⟨hc5012, hm⟩ | ⟨hc5012, hm⟩
              · refine W_known 104 true (by kernel_rfl) hc5012 ?_
                refine W_run 14 [(0, .slice p4356 x4354.length c4357), (118, .bool true)] w4970 (by kernel_rfl) ?_
                refine W_nil ?_
                obtain rfl := Option.some.inj hm
                exact N_meet fun a ha => ⟨M4972.pick [] (by kernel_rfl), ha.sub (by kernel_rfl)⟩
              · refine W_known 104 false (by kernel_rfl) hc5012 ?_
                refine W_run 4 [(0, .slice p4356 x4354.length c4357), (4, .int .i64 r4398.2), (9, .slice p4957 r4955.1.length c4958), (11, .slice p4966 r4964.1.length c4967), (108, .bool (!r4964.2))] w4970 (by kernel_rfl) ?_
                rcases gx_bif hm with ⟨hc5013, hm⟩ | ⟨hc5013, hm⟩
                · refine W_known 108 true (by kernel_rfl) hc5013 ?_
                  refine W_run 10 [(0, .slice p4356 x4354.length c4357), (118, .bool true)] w4970 (by kernel_rfl) ?_
                  refine W_nil ?_
                  obtain rfl := Option.some.inj hm
                  exact N_meet fun a ha => ⟨M4972.pick [] (by kernel_rfl), ha.sub (by kernel_rfl)⟩
                · refine W_known 108 false (by kernel_rfl) hc5013 ?_
                  refine W_run 1 [(0, .slice p4356 x4354.length c4357), (4, .int .i64 r4398.2), (9, .slice p4957 r4955.1.length c4958), (108, .bool false), (109, .slice p4966 r4964.1.length c4967)] w4970 (by kernel_rfl) ?_
                  refine W_lit (E := encI) ([] : List Int) 0 [] 3 M4972 (by kernel_rfl) (by kernel_rfl) (by kernel_rfl) (by kernel_rfl) (by kernel_rfl) ?_
                  intro p5014 c5015 sg5016 w5017 ho5018 M5019
                  refine W_run 1 [(0, .slice p4356 x4354.length c4357), (4, .int .i64 r4398.2), (108, .bool false), (109, .slice p4966 r4964.1.length c4967), (110, .slice p5014 ([] : List Int).length c5015), (111, .slice p4957 r4955.1.length c4958)] w5017 (by kernel_rfl) ?_
                  obtain ⟨ap5021, hap5021, hm⟩ := gx_bind hm
                  refine W_append (E := encI) _ _ _ 8 [.int .i64 0] 6 c4958 M5019 ho5018 (by kernel_rfl) (by kernel_rfl) (by kernel_rfl) rfl (by kernel_rfl) (by kernel_rfl) (by kernel_rfl) (by kernel_rfl) (by kernel_rfl) (by kernel_rfl) (ho4960.rd M5019 4 (by kernel_rfl)) hap5021 ?_
                  intro p5022 c5023 sg5024 w5025 ho5026 M5027
                  refine W_run 1 [(0, .slice p4356 x4354.length c4357), (108, .bool false), (109, .slice p4966 r4964.1.length c4967), (112, .slice p5022 ap5021.length c5023), (113, .int .i64 r4398.2)] w5025 (by kernel_rfl) ?_
                  refine W_lit (E := encI) [r4398.2] 1 [.int .i64 r4398.2] 3 M5027 (by kernel_rfl) (by kernel_rfl) (by kernel_rfl) (by kernel_rfl) (by kernel_rfl) ?_
                  intro p5029 c5030 sg5031 w5032 ho5033 M5034
                  obtain ⟨ap5036, hap5036, hm⟩ := gx_bind hm
                  refine W_append (E := encI) _ _ _ 8 [.int .i64 0] 6 c5030 M5034 ho5026 (by kernel_rfl) (by kernel_rfl) (by kernel_rfl) rfl (by kernel_rfl) (by kernel_rfl) (by kernel_rfl) (by kernel_rfl) (by kernel_rfl) (by kernel_rfl) (ho5033.rd M5034 7 (by kernel_rfl)) hap5036 ?_
                  intro p5037 c5038 sg5039 w5040 ho5041 M5042
                  obtain ⟨r5044, hr5044, hm⟩ := gx_bind hm
                  refine W_call 45 #[.slice p4966 r4964.1.length c4967, .slice p5037 ap5036.length c5038] (by kernel_rfl) (by kernel_rfl) ?_
                  refine (c_l_vInts w5040 r4964.1 p4966 c4967 (ho4969.rd M5042 5 (by kernel_rfl)) ap5036 p5037 c5038 (ho5041.rd M5042 6 (by kernel_rfl)) hr5044).mono ?_
                  rintro e_ w5045 ⟨rfl, K5046⟩
                  have M5047 := M5042.call0 K5046
                  refine ⟨_, rfl, ?_⟩
                  refine W_run 2 [(0, .slice p4356 x4354.length c4357), (118, .bool (!r5044))] w5045 (by kernel_rfl) ?_
                  refine W_nil ?_
                  obtain rfl := Option.some.inj hm
                  exact N_meet fun a ha => ⟨M5047.pick [] (by kernel_rfl), ha.sub (by kernel_rfl)⟩
            · intro a5050 w5048 ⟨M5049, hS5051⟩
              refine N_use hS5051 ?_
              have hm := hm5011
              refine N_then ?_
              rcases gx_bif hm with ⟨hc5052, hm⟩ | ⟨hc5052, hm⟩
              · refine G_cond_t (b := o5009) hc5052 (by kernel_rfl) ?_
                refine G_seq ?_
                refine G_region ?_
                refine W_run 1 [(2, .bool false)] w5048 (by kernel_rfl) ?_
                refine W_nil ?_
                refine N_then ?_
                refine G_ret ?_
                refine N_meet_ret ?_
                obtain rfl := Option.some.inj hm
                have hm := hm4952
                simp only [Sum.elim_inr] at hm
                refine N_then_ret ?_
                obtain rfl := Option.some.inj hm
                refine N_ret [.bool false] (RVs_cons (RV_tmp (by kernel_rfl)) RVs_nil) ?_
                exact ⟨rfl, M5049.pick [] (by kernel_rfl)⟩
              · refine G_cond_f (b := o5009) hc5052 (by kernel_rfl) ?_
                refine G_skip ?_
                obtain rfl := Option.some.inj hm
                exact N_meet fun a ha => ⟨_, rfl, M5049.pick [] (by kernel_rfl), ha.sub (by kernel_rfl)⟩
          · refine G_cond_f (b := r4668.2) hc4954 (by kernel_rfl) ?_
            refine G_skip ?_
            obtain rfl := Option.some.inj hm
            exact N_meet fun a ha => ⟨_, rfl, M4847.pick [] (by kernel_rfl), ha.sub (by kernel_rfl)⟩
        · intro a5055 w5053 ⟨o4950, hout_, M5054, hS5056⟩
          refine N_use hS5056 ?_
          subst hout_
          have hm := hm4952
          simp only [Sum.elim_inl] at hm
          refine N_then ?_
          refine G_seq ?_
          refine G_region ?_
          refine W_run 1 [(0, .slice p4356 x4354.length c4357), (119, .slice p4356 x4354.length c4357)] w5053 (by kernel_rfl) ?_
          obtain ⟨r5082, hr5082, hm⟩ := gx_bind hm
          refine W_call 49 #[.slice p4356 x4354.length c4357] (by kernel_rfl) (by kernel_rfl) ?_
          refine (c_s_DrawTakeWord w5053 x4354 p4356 c4357 (h4358.mem0 M5054) hr5082).mono ?_
          rintro e_ w5088 ⟨p5084, c5085, sg5086, rfl, ho5087, K5089⟩
          have M5090 := M5054.call K5089
          refine ⟨_, rfl, ?_⟩
          refine W_new (fun b => .pointer (some ⟨b, 0, none⟩)) (.cells ⟨[.slice none 0 0, .int .i64 0, .int .i64 0]⟩ 27 (0, 0)) M5090 rfl (by kernel_rfl) (by kernel_rfl) ?_
          intro b5093 w5094 M5095
          refine W_store _ _ _ true 3 b5093 0 [.slice none 0 0, .int .i64 0, .int .i64 0] 27 (.agg #[.slice p5084 r5082.Items.length c5085, .int .i64 r5082.Head, .int .i64 r5082.Tail]) 1 [.slice p5084 r5082.Items.length c5085, .int .i64 r5082.Head, .int .i64 r5082.Tail] M5095 (by kernel_rfl) rfl (by kernel_rfl) (by kernel_rfl) (by kernel_rfl) (by kernel_rfl) (by kernel_rfl) (by kernel_rfl) (by kernel_rfl) (by kernel_rfl) ?_
          intro w5096 M5097
          refine W_nil ?_
          refine N_then ?_
          refine G_seq ?_
          refine G_region ?_
          refine W_val (.agg #[.slice p5084 r5082.Items.length c5085, .int .i64 r5082.Head, .int .i64 r5082.Tail]) w5096 (by kernel_rfl) (E_load (e := 27) (fr := (0, 0)) _ _ true 3 b5093 0 [.slice p5084 r5082.Items.length c5085, .int .i64 r5082.Head, .int .i64 r5082.Tail] (.agg #[.slice p5084 r5082.Items.length c5085, .int .i64 r5082.Head, .int .i64 r5082.Tail]) rfl (by kernel_rfl) (by kernel_rfl) (by kernel_rfl) (M5097.blk 1 (b := b5093) (o := .cells ⟨[.slice p5084 r5082.Items.length c5085, .int .i64 r5082.Head, .int .i64 r5082.Tail]⟩ 27 (0, 0)) (by kernel_rfl))) ?_
          obtain ⟨r5377, hr5377, hm⟩ := gx_bind hm
          refine W_call 33 #[.agg #[.slice p5084 r5082.Items.length c5085, .int .i64 r5082.Head, .int .i64 r5082.Tail]] (by kernel_rfl) (by kernel_rfl) ?_
          refine (c_i_TakeWord w5096 r5082 p5084 c5085 (ho5087.rd M5097 0 (by kernel_rfl)) hr5377).mono ?_
          rintro e_ w5383 ⟨p5379, c5380, sg5381, rfl, ho5382, K5384⟩
          have M5385 := M5097.call K5384
          refine ⟨_, rfl, ?_⟩
          refine W_run 4 [(0, .slice p4356 x4354.length c4357), (13, .pointer (some ⟨b5093, 0, none⟩)), (124, .agg #[.slice p5379 r5377.1.Items.length c5380, .int .i64 r5377.1.Head, .int .i64 r5377.1.Tail]), (125, .int .i64 r5377.2.1), (126, .bool r5377.2.2)] w5383 (by kernel_rfl) ?_
          refine W_new (fun b => .pointer (some ⟨b, 0, none⟩)) (.cells ⟨[.slice none 0 0, .int .i64 0, .int .i64 0]⟩ 27 (0, 0)) M5385 rfl (by kernel_rfl) (by kernel_rfl) ?_
          intro b5388 w5389 M5390
          refine W_store _ _ _ true 3 b5388 0 [.slice none 0 0, .int .i64 0, .int .i64 0] 27 (.agg #[.slice p5379 r5377.1.Items.length c5380, .int .i64 r5377.1.Head, .int .i64 r5377.1.Tail]) 3 [.slice p5379 r5377.1.Items.length c5380, .int .i64 r5377.1.Head, .int .i64 r5377.1.Tail] M5390 (by kernel_rfl) rfl (by kernel_rfl) (by kernel_rfl) (by kernel_rfl) (by kernel_rfl) (by kernel_rfl) (by kernel_rfl) (by kernel_rfl) (by kernel_rfl) ?_
          intro w5391 M5392
          refine W_run 2 [(0, .slice p4356 x4354.length c4357), (13, .pointer (some ⟨b5093, 0, none⟩)), (14, .pointer (some ⟨b5388, 0, none⟩)), (15, .int .i64 r5377.2.1), (16, .bool r5377.2.2)] w5391 (by kernel_rfl) ?_
          refine W_nil ?_
          refine N_then ?_
          refine G_seq ?_
          refine G_seq ?_
          refine G_region ?_
          refine W_val (.agg #[.slice p5084 r5082.Items.length c5085, .int .i64 r5082.Head, .int .i64 r5082.Tail]) w5391 (by kernel_rfl) (E_load (e := 27) (fr := (0, 0)) _ _ true 3 b5093 0 [.slice p5084 r5082.Items.length c5085, .int .i64 r5082.Head, .int .i64 r5082.Tail] (.agg #[.slice p5084 r5082.Items.length c5085, .int .i64 r5082.Head, .int .i64 r5082.Tail]) rfl (by kernel_rfl) (by kernel_rfl) (by kernel_rfl) (M5392.blk 1 (b := b5093) (o := .cells ⟨[.slice p5084 r5082.Items.length c5085, .int .i64 r5082.Head, .int .i64 r5082.Tail]⟩ 27 (0, 0)) (by kernel_rfl))) ?_
          obtain ⟨r5458, hr5458, hm⟩ := gx_bind hm
          refine W_call 32 #[.agg #[.slice p5084 r5082.Items.length c5085, .int .i64 r5082.Head, .int .i64 r5082.Tail]] (by kernel_rfl) (by kernel_rfl) ?_
          refine (c_s_TakeWord w5391 r5082 p5084 c5085 (ho5087.rd M5392 0 (by kernel_rfl)) hr5458).mono ?_
          rintro e_ w5464 ⟨p5460, c5461, sg5462, rfl, ho5463, K5465⟩
          have M5466 := M5392.call K5465
          refine ⟨_, rfl, ?_⟩
          refine W_run 4 [(0, .slice p4356 x4354.length c4357), (13, .pointer (some ⟨b5093, 0, none⟩)), (14, .pointer (some ⟨b5388, 0, none⟩)), (15, .int .i64 r5377.2.1), (16, .bool r5377.2.2), (130, .agg #[.slice p5460 r5458.1.Items.length c5461, .int .i64 r5458.1.Head, .int .i64 r5458.1.Tail]), (131, .int .i64 r5458.2.1), (132, .bool r5458.2.2)] w5464 (by kernel_rfl) ?_
          refine W_new (fun b => .pointer (some ⟨b, 0, none⟩)) (.cells ⟨[.slice none 0 0, .int .i64 0, .int .i64 0]⟩ 27 (0, 0)) M5466 rfl (by kernel_rfl) (by kernel_rfl) ?_
          intro b5469 w5470 M5471
          refine W_store _ _ _ true 3 b5469 0 [.slice none 0 0, .int .i64 0, .int .i64 0] 27 (.agg #[.slice p5460 r5458.1.Items.length c5461, .int .i64 r5458.1.Head, .int .i64 r5458.1.Tail]) 5 [.slice p5460 r5458.1.Items.length c5461, .int .i64 r5458.1.Head, .int .i64 r5458.1.Tail] M5471 (by kernel_rfl) rfl (by kernel_rfl) (by kernel_rfl) (by kernel_rfl) (by kernel_rfl) (by kernel_rfl) (by kernel_rfl) (by kernel_rfl) (by kernel_rfl) ?_
          intro w5472 M5473
          refine W_run 2 [(0, .slice p4356 x4354.length c4357), (13, .pointer (some ⟨b5093, 0, none⟩)), (14, .pointer (some ⟨b5388, 0, none⟩)), (15, .int .i64 r5377.2.1), (16, .bool r5377.2.2), (17, .pointer (some ⟨b5469, 0, none⟩)), (18, .int .i64 r5458.2.1), (19, .bool r5458.2.2)] w5472 (by kernel_rfl) ?_
          refine W_nil ?_
          refine N_then ?_
          refine G_seq ?_
          obtain ⟨o5480, ho5481, hm5482⟩ := gx_bind hm
          refine G_meet (fun a w' => Mem [] w w' [sg5086, [(b5093, .cells ⟨[.slice p5084 r5082.Items.length c5085, .int .i64 r5082.Head, .int .i64 r5082.Tail]⟩ 27 (0, 0))], sg5381, [(b5388, .cells ⟨[.slice p5379 r5377.1.Items.length c5380, .int .i64 r5377.1.Head, .int .i64 r5377.1.Tail]⟩ 27 (0, 0))]] ∧ Sat Try.f13.ntmps [(0, .slice p4356 x4354.length c4357), (13, .pointer (some ⟨b5093, 0, none⟩)), (14, .pointer (some ⟨b5388, 0, none⟩)), (15, .int .i64 r5377.2.1), (16, .bool r5377.2.2), (146, .bool o5480)] a) ?_ ?_
          · have hm := ho5481
            refine G_region ?_
            refine W_run 4 [(0, .slice p4356 x4354.length c4357), (13, .pointer (some ⟨b5093, 0, none⟩)), (14, .pointer (some ⟨b5388, 0, none⟩)), (15, .int .i64 r5377.2.1), (16, .bool r5377.2.2), (17, .pointer (some ⟨b5469, 0, none⟩)), (18, .int .i64 r5458.2.1), (136, .bool (!(r5377.2.2 == r5458.2.2)))] w5472 (by kernel_rfl) ?_
            rcases gx_bif hm with ⟨hc5483, hm⟩ | ⟨hc5483, hm⟩
            · refine W_known 136 true (by kernel_rfl) hc5483 ?_
              refine W_run 10 [(0, .slice p4356 x4354.length c4357), (13, .pointer (some ⟨b5093, 0, none⟩)), (14, .pointer (some ⟨b5388, 0, none⟩)), (15, .int .i64 r5377.2.1), (16, .bool r5377.2.2), (146, .bool true)] w5472 (by kernel_rfl) ?_
              refine W_nil ?_
              obtain rfl := Option.some.inj hm
              exact N_meet fun a ha => ⟨M5473.pick [0, 1, 2, 3] (by kernel_rfl), ha.sub (by kernel_rfl)⟩
            · refine W_known 136 false (by kernel_rfl) hc5483 ?_
              refine W_run 5 [(0, .slice p4356 x4354.length c4357), (13, .pointer (some ⟨b5093, 0, none⟩)), (14, .pointer (some ⟨b5388, 0, none⟩)), (15, .int .i64 r5377.2.1), (16, .bool r5377.2.2), (17, .pointer (some ⟨b5469, 0, none⟩)), (141, .bool (r5377.2.1 != r5458.2.1))] w5472 (by kernel_rfl) ?_
              rcases gx_bif hm with ⟨hc5484, hm⟩ | ⟨hc5484, hm⟩
              · refine W_known 141 true (by kernel_rfl) hc5484 ?_
                refine W_run 5 [(0, .slice p4356 x4354.length c4357), (13, .pointer (some ⟨b5093, 0, none⟩)), (14, .pointer (some ⟨b5388, 0, none⟩)), (15, .int .i64 r5377.2.1), (16, .bool r5377.2.2), (146, .bool true)] w5472 (by kernel_rfl) ?_
                refine W_nil ?_
                obtain rfl := Option.some.inj hm
                exact N_meet fun a ha => ⟨M5473.pick [0, 1, 2, 3] (by kernel_rfl), ha.sub (by kernel_rfl)⟩
              · refine W_known 141 false (by kernel_rfl) hc5484 ?_
                refine W_val (.agg #[.slice p5379 r5377.1.Items.length c5380, .int .i64 r5377.1.Head, .int .i64 r5377.1.Tail]) w5472 (by kernel_rfl) (E_load (e := 27) (fr := (0, 0)) _ _ true 3 b5388 0 [.slice p5379 r5377.1.Items.length c5380, .int .i64 r5377.1.Head, .int .i64 r5377.1.Tail] (.agg #[.slice p5379 r5377.1.Items.length c5380, .int .i64 r5377.1.Head, .int .i64 r5377.1.Tail]) rfl (by kernel_rfl) (by kernel_rfl) (by kernel_rfl) (M5473.blk 3 (b := b5388) (o := .cells ⟨[.slice p5379 r5377.1.Items.length c5380, .int .i64 r5377.1.Head, .int .i64 r5377.1.Tail]⟩ 27 (0, 0)) (by kernel_rfl))) ?_
                refine W_val (.agg #[.slice p5460 r5458.1.Items.length c5461, .int .i64 r5458.1.Head, .int .i64 r5458.1.Tail]) w5472 (by kernel_rfl) (E_load (e := 27) (fr := (0, 0)) _ _ true 3 b5469 0 [.slice p5460 r5458.1.Items.length c5461, .int .i64 r5458.1.Head, .int .i64 r5458.1.Tail] (.agg #[.slice p5460 r5458.1.Items.length c5461, .int .i64 r5458.1.Head, .int .i64 r5458.1.Tail]) rfl (by kernel_rfl) (by kernel_rfl) (by kernel_rfl) (M5473.blk 5 (b := b5469) (o := .cells ⟨[.slice p5460 r5458.1.Items.length c5461, .int .i64 r5458.1.Head, .int .i64 r5458.1.Tail]⟩ 27 (0, 0)) (by kernel_rfl))) ?_
                obtain ⟨r5485, hr5485, hm⟩ := gx_bind hm
                refine W_call 44 #[.agg #[.slice p5379 r5377.1.Items.length c5380, .int .i64 r5377.1.Head, .int .i64 r5377.1.Tail], .agg #[.slice p5460 r5458.1.Items.length c5461, .int .i64 r5458.1.Head, .int .i64 r5458.1.Tail]] (by kernel_rfl) (by kernel_rfl) ?_
                refine (c_l_vRing w5472 r5377.1 p5379 c5380 (ho5382.rd M5473 2 (by kernel_rfl)) r5458.1 p5460 c5461 (ho5463.rd M5473 4 (by kernel_rfl)) hr5485).mono ?_
                rintro e_ w5486 ⟨rfl, K5487⟩
                have M5488 := M5473.call0 K5487
                refine ⟨_, rfl, ?_⟩
                refine W_run 2 [(0, .slice p4356 x4354.length c4357), (13, .pointer (some ⟨b5093, 0, none⟩)), (14, .pointer (some ⟨b5388, 0, none⟩)), (15, .int .i64 r5377.2.1), (16, .bool r5377.2.2), (146, .bool (!r5485))] w5486 (by kernel_rfl) ?_
                refine W_nil ?_
                obtain rfl := Option.some.inj hm
                exact N_meet fun a ha => ⟨M5488.pick [0, 1, 2, 3] (by kernel_rfl), ha.sub (by kernel_rfl)⟩
          · intro a5491 w5489 ⟨M5490, hS5492⟩
            refine N_use hS5492 ?_
            have hm := hm5482
            refine N_then ?_
            rcases gx_bif hm with ⟨hc5493, hm⟩ | ⟨hc5493, hm⟩
            · refine G_cond_t (b := o5480) hc5493 (by kernel_rfl) ?_
              refine G_seq ?_
              refine G_region ?_
              refine W_run 1 [(2, .bool false)] w5489 (by kernel_rfl) ?_
              refine W_nil ?_
              refine N_then ?_
              refine G_ret ?_
              refine N_then_ret ?_
              obtain rfl := Option.some.inj hm
              refine N_ret [.bool false] (RVs_cons (RV_tmp (by kernel_rfl)) RVs_nil) ?_
              exact ⟨rfl, M5490.pick [] (by kernel_rfl)⟩
            · refine G_cond_f (b := o5480) hc5493 (by kernel_rfl) ?_
              refine G_skip ?_
              refine N_then ?_
              refine G_seq ?_
              refine G_seq ?_
              refine G_region ?_
              refine W_run 1 [(0, .slice p4356 x4354.length c4357), (13, .pointer (some ⟨b5093, 0, none⟩)), (14, .pointer (some ⟨b5388, 0, none⟩)), (15, .int .i64 r5377.2.1), (147, .bool r5377.2.2)] w5489 (by kernel_rfl) ?_
              refine W_nil ?_
              refine N_then ?_
              obtain ⟨out5556, ho5554, hm5555⟩ := gx_bind hm
              refine G_meet (fun a w' => ∃ (o5553 : Unit), out5556 = .inl o5553 ∧ Mem [] w w' [] ∧ Sat Try.f13.ntmps [(0, .slice p4356 x4354.length c4357)] a) ?_ ?_
              · have hm := ho5554
                rcases gx_bif hm with ⟨hc5557, hm⟩ | ⟨hc5557, hm⟩
                · refine G_cond_t (b := r5377.2.2) hc5557 (by kernel_rfl) ?_
                  refine G_seq ?_
                  refine G_region ?_
                  refine W_val (.agg #[.slice p5084 r5082.Items.length c5085, .int .i64 r5082.Head, .int .i64 r5082.Tail]) w5489 (by kernel_rfl) (E_load (e := 27) (fr := (0, 0)) _ _ true 3 b5093 0 [.slice p5084 r5082.Items.length c5085, .int .i64 r5082.Head, .int .i64 r5082.Tail] (.agg #[.slice p5084 r5082.Items.length c5085, .int .i64 r5082.Head, .int .i64 r5082.Tail]) rfl (by kernel_rfl) (by kernel_rfl) (by kernel_rfl) (M5490.blk 1 (b := b5093) (o := .cells ⟨[.slice p5084 r5082.Items.length c5085, .int .i64 r5082.Head, .int .i64 r5082.Tail]⟩ 27 (0, 0)) (by kernel_rfl))) ?_
                  obtain ⟨r5558, hr5558, hm⟩ := gx_bind hm
                  refine W_call 26 #[.agg #[.slice p5084 r5082.Items.length c5085, .int .i64 r5082.Head, .int .i64 r5082.Tail]] (by kernel_rfl) (by kernel_rfl) ?_
                  refine (c_i_RingWords w5489 r5082 p5084 c5085 (ho5087.rd M5490 0 (by kernel_rfl)) hr5558).mono ?_
                  rintro e_ w5564 ⟨p5560, c5561, sg5562, rfl, ho5563, K5565⟩
                  have M5566 := M5490.call K5565
                  refine ⟨_, rfl, ?_⟩
                  refine W_run 5 [(0, .slice p4356 x4354.length c4357), (14, .pointer (some ⟨b5388, 0, none⟩)), (15, .int .i64 r5377.2.1), (20, .slice p5560 r5558.1.length c5561), (21, .bool r5558.2)] w5564 (by kernel_rfl) ?_
                  refine W_nil ?_
                  refine N_then ?_
                  refine G_seq ?_
                  refine G_region ?_
                  refine W_val (.agg #[.slice p5379 r5377.1.Items.length c5380, .int .i64 r5377.1.Head, .int .i64 r5377.1.Tail]) w5564 (by kernel_rfl) (E_load (e := 27) (fr := (0, 0)) _ _ true 3 b5388 0 [.slice p5379 r5377.1.Items.length c5380, .int .i64 r5377.1.Head, .int .i64 r5377.1.Tail] (.agg #[.slice p5379 r5377.1.Items.length c5380, .int .i64 r5377.1.Head, .int .i64 r5377.1.Tail]) rfl (by kernel_rfl) (by kernel_rfl) (by kernel_rfl) (M5566.blk 3 (b := b5388) (o := .cells ⟨[.slice p5379 r5377.1.Items.length c5380, .int .i64 r5377.1.Head, .int .i64 r5377.1.Tail]⟩ 27 (0, 0)) (by kernel_rfl))) ?_
                  obtain ⟨r5567, hr5567, hm⟩ := gx_bind hm
                  refine W_call 26 #[.agg #[.slice p5379 r5377.1.Items.length c5380, .int .i64 r5377.1.Head, .int .i64 r5377.1.Tail]] (by kernel_rfl) (by kernel_rfl) ?_
                  refine (c_i_RingWords w5564 r5377.1 p5379 c5380 (ho5382.rd M5566 2 (by kernel_rfl)) hr5567).mono ?_
                  rintro e_ w5573 ⟨p5569, c5570, sg5571, rfl, ho5572, K5574⟩
                  have M5575 := M5566.call K5574
                  refine ⟨_, rfl, ?_⟩
                  refine W_run 5 [(0, .slice p4356 x4354.length c4357), (14, .pointer (some ⟨b5388, 0, none⟩)), (15, .int .i64 r5377.2.1), (20, .slice p5560 r5558.1.length c5561), (21, .bool r5558.2), (22, .slice p5569 r5567.1.length c5570), (23, .bool r5567.2)] w5573 (by kernel_rfl) ?_
                  refine W_nil ?_
                  refine N_then ?_
                  refine G_seq ?_
                  obtain ⟨o5592, ho5593, hm5594⟩ := gx_bind hm
                  refine G_meet (fun a w' => Mem [] w w' [] ∧ Sat Try.f13.ntmps [(0, .slice p4356 x4354.length c4357), (187, .bool o5592)] a) ?_ ?_
                  · have hm := ho5593
                    refine G_region ?_
                    refine W_run 3 [(0, .slice p4356 x4354.length c4357), (14, .pointer (some ⟨b5388, 0, none⟩)), (15, .int .i64 r5377.2.1), (20, .slice p5560 r5558.1.length c5561), (22, .slice p5569 r5567.1.length c5570), (23, .bool r5567.2), (160, .bool (!r5558.2))] w5573 (by kernel_rfl) ?_
                    rcases gx_bif hm with ⟨hc5595, hm⟩ | ⟨hc5595, hm⟩
                    · refine W_known 160 true (by kernel_rfl) hc5595 ?_
                      refine W_run 27 [(0, .slice p4356 x4354.length c4357), (187, .bool true)] w5573 (by kernel_rfl) ?_
                      refine W_nil ?_
                      obtain rfl := Option.some.inj hm
                      exact N_meet fun a ha => ⟨M5575.pick [] (by kernel_rfl), ha.sub (by kernel_rfl)⟩
                    · refine W_known 160 false (by kernel_rfl) hc5595 ?_
                      refine W_run 4 [(0, .slice p4356 x4354.length c4357), (14, .pointer (some ⟨b5388, 0, none⟩)), (15, .int .i64 r5377.2.1), (20, .slice p5560 r5558.1.length c5561), (22, .slice p5569 r5567.1.length c5570), (164, .bool (!r5567.2))] w5573 (by kernel_rfl) ?_
                      rcases gx_bif hm with ⟨hc5596, hm⟩ | ⟨hc5596, hm⟩
                      · refine W_known 164 true (by kernel_rfl) hc5596 ?_
                        refine W_run 23 [(0, .slice p4356 x4354.length c4357), (187, .bool true)] w5573 (by kernel_rfl) ?_
                        refine W_nil ?_
                        obtain rfl := Option.some.inj hm
                        exact N_meet fun a ha => ⟨M5575.pick [] (by kernel_rfl), ha.sub (by kernel_rfl)⟩
                      · refine W_known 164 false (by kernel_rfl) hc5596 ?_
                        refine W_run 5 [(0, .slice p4356 x4354.length c4357), (14, .pointer (some ⟨b5388, 0, none⟩)), (15, .int .i64 r5377.2.1), (20, .slice p5560 r5558.1.length c5561), (22, .slice p5569 r5567.1.length c5570), (169, .bool ((r5558.1.length : Int) == 0))] w5573 (by kernel_rfl) ?_
                        rcases gx_bif hm with ⟨hc5597, hm⟩ | ⟨hc5597, hm⟩
                        · refine W_known 169 true (by kernel_rfl) hc5597 ?_
                          refine W_run 18 [(0, .slice p4356 x4354.length c4357), (187, .bool true)] w5573 (by kernel_rfl) ?_
                          refine W_nil ?_
                          obtain rfl := Option.some.inj hm
                          exact N_meet fun a ha => ⟨M5575.pick [] (by kernel_rfl), ha.sub (by kernel_rfl)⟩
                        · refine W_known 169 false (by kernel_rfl) hc5597 ?_
                          refine W_run 1 [(0, .slice p4356 x4354.length c4357), (14, .pointer (some ⟨b5388, 0, none⟩)), (15, .int .i64 r5377.2.1), (20, .slice p5560 r5558.1.length c5561), (22, .slice p5569 r5567.1.length c5570), (169, .bool false), (170, .slice p5560 r5558.1.length c5561)] w5573 (by kernel_rfl) ?_
                          obtain ⟨y5598, hy5598, hm⟩ := gx_bind hm
                          refine W_val (elemP p5560 ((0 : Int).toNat * 1)) w5573 (by kernel_rfl) (E_index (E := encI) _ _ _ r5558.1.length c5561 .i64 0 1 (y := y5598) rfl (by kernel_rfl) (by kernel_rfl) (by kernel_rfl) (ho5563.rd M5575 4 (by kernel_rfl)) rfl hy5598) ?_
                          refine W_val (.int .i64 y5598) w5573 (by kernel_rfl) (E_loadE (E := encI) _ _ false 1 0 0 ((0 : Int).toNat * 1) y5598 (.int .i64 y5598) rfl (by kernel_rfl) (by kernel_rfl) (by kernel_rfl) (ho5563.rd M5575 4 (by kernel_rfl)) hy5598 rfl) ?_
                          refine W_run 4 [(0, .slice p4356 x4354.length c4357), (14, .pointer (some ⟨b5388, 0, none⟩)), (20, .slice p5560 r5558.1.length c5561), (22, .slice p5569 r5567.1.length c5570), (176, .bool (y5598 != r5377.2.1))] w5573 (by kernel_rfl) ?_
                          rcases gx_bif hm with ⟨hc5599, hm⟩ | ⟨hc5599, hm⟩
                          · refine W_known 176 true (by kernel_rfl) hc5599 ?_
                            refine W_run 11 [(0, .slice p4356 x4354.length c4357), (187, .bool true)] w5573 (by kernel_rfl) ?_
                            refine W_nil ?_
                            obtain rfl := Option.some.inj hm
                            exact N_meet fun a ha => ⟨M5575.pick [] (by kernel_rfl), ha.sub (by kernel_rfl)⟩
                          · refine W_known 176 false (by kernel_rfl) hc5599 ?_
                            refine W_run 2 [(0, .slice p4356 x4354.length c4357), (14, .pointer (some ⟨b5388, 0, none⟩)), (176, .bool false), (177, .slice p5569 r5567.1.length c5570), (178, .slice p5560 r5558.1.length c5561)] w5573 (by kernel_rfl) ?_
                            obtain ⟨ys5600, hys5600, hm⟩ := gx_bind hm
                            refine W_val (.slice (subP p5560 (1 : Int).toNat c5561 1) ys5600.length (c5561 - (1 : Int).toNat)) w5573 (by kernel_rfl) (E_slice (E := encI) _ _ _ _ r5558.1.length 1 (r5558.1.length : Int) rfl (by kernel_rfl) (Or.inr ⟨_, rfl, by kernel_rfl⟩) (Or.inl ⟨rfl, rfl⟩) (by kernel_rfl) (ho5563.rd M5575 4 (by kernel_rfl)) rfl hys5600) ?_
                            obtain ⟨r5602, hr5602, hm⟩ := gx_bind hm
                            refine W_call 45 #[.slice p5569 r5567.1.length c5570, .slice (subP p5560 (1 : Int).toNat c5561 1) ys5600.length (c5561 - (1 : Int).toNat)] (by kernel_rfl) (by kernel_rfl) ?_
                            refine (c_l_vInts w5573 r5567.1 p5569 c5570 (ho5572.rd M5575 5 (by kernel_rfl)) ys5600 (subP p5560 (1 : Int).toNat c5561 1) (c5561 - (1 : Int).toNat) ((ho5563.rd M5575 4 (by kernel_rfl)).sliceM hys5600) hr5602).mono ?_
                            rintro e_ w5603 ⟨rfl, K5604⟩
                            have M5605 := M5575.call0 K5604
                            refine ⟨_, rfl, ?_⟩
                            refine W_run 3 [(0, .slice p4356 x4354.length c4357), (14, .pointer (some ⟨b5388, 0, none⟩)), (183, .bool (!r5602))] w5603 (by kernel_rfl) ?_
                            rcases gx_bif hm with ⟨hc5606, hm⟩ | ⟨hc5606, hm⟩
                            · refine W_known 183 true (by kernel_rfl) hc5606 ?_
                              refine W_run 4 [(0, .slice p4356 x4354.length c4357), (187, .bool true)] w5603 (by kernel_rfl) ?_
                              refine W_nil ?_
                              obtain rfl := Option.some.inj hm
                              exact N_meet fun a ha => ⟨M5605.pick [] (by kernel_rfl), ha.sub (by kernel_rfl)⟩
                            · refine W_known 183 false (by kernel_rfl) hc5606 ?_
                              refine W_val (.agg #[.slice p5379 r5377.1.Items.length c5380, .int .i64 r5377.1.Head, .int .i64 r5377.1.Tail]) w5603 (by kernel_rfl) (E_load (e := 27) (fr := (0, 0)) _ _ true 3 b5388 0 [.slice p5379 r5377.1.Items.length c5380, .int .i64 r5377.1.Head, .int .i64 r5377.1.Tail] (.agg #[.slice p5379 r5377.1.Items.length c5380, .int .i64 r5377.1.Head, .int .i64 r5377.1.Tail]) rfl (by kernel_rfl) (by kernel_rfl) (by kernel_rfl) (M5605.blk 3 (b := b5388) (o := .cells ⟨[.slice p5379 r5377.1.Items.length c5380, .int .i64 r5377.1.Head, .int .i64 r5377.1.Tail]⟩ 27 (0, 0)) (by kernel_rfl))) ?_
                              obtain ⟨r5607, hr5607, hm⟩ := gx_bind hm
                              refine W_call 24 #[.agg #[.slice p5379 r5377.1.Items.length c5380, .int .i64 r5377.1.Head, .int .i64 r5377.1.Tail]] (by kernel_rfl) (by kernel_rfl) ?_
                              refine (c_i_IsRing w5603 r5377.1 p5379 c5380 (ho5382.rd M5605 2 (by kernel_rfl)) hr5607).mono ?_
                              rintro e_ w5608 ⟨rfl, K5609⟩
                              have M5610 := M5605.call0 K5609
                              refine ⟨_, rfl, ?_⟩
                              refine W_run 2 [(0, .slice p4356 x4354.length c4357), (187, .bool (!r5607))] w5608 (by kernel_rfl) ?_
                              refine W_nil ?_
                              obtain rfl := Option.some.inj hm
                              exact N_meet fun a ha => ⟨M5610.pick [] (by kernel_rfl), ha.sub (by kernel_rfl)⟩
                  · intro a5613 w5611 ⟨M5612, hS5614⟩
                    refine N_use hS5614 ?_
                    have hm := hm5594
                    refine N_then ?_
                    rcases gx_bif hm with ⟨hc5615, hm⟩ | ⟨hc5615, hm⟩
                    · refine G_cond_t (b := o5592) hc5615 (by kernel_rfl) ?_
                      refine G_seq ?_
                      refine G_region ?_
                      refine W_run 1 [(2, .bool false)] w5611 (by kernel_rfl) ?_
                      refine W_nil ?_
                      refine N_then ?_
                      refine G_ret ?_
                      refine N_meet_ret ?_
                      obtain rfl := Option.some.inj hm
                      have hm := hm5555
                      simp only [Sum.elim_inr] at hm
                      refine N_then_ret ?_
                      obtain rfl := Option.some.inj hm
                      refine N_ret [.bool false] (RVs_cons (RV_tmp (by kernel_rfl)) RVs_nil) ?_
                      exact ⟨rfl, M5612.pick [] (by kernel_rfl)⟩
                    · refine G_cond_f (b := o5592) hc5615 (by kernel_rfl) ?_
                      refine G_skip ?_
                      obtain rfl := Option.some.inj hm
                      exact N_meet fun a ha => ⟨_, rfl, M5612.pick [] (by kernel_rfl), ha.sub (by kernel_rfl)⟩
                · refine G_cond_f (b := r5377.2.2) hc5557 (by kernel_rfl) ?_
                  refine G_skip ?_
                  obtain rfl := Option.some.inj hm
                  exact N_meet fun a ha => ⟨_, rfl, M5490.pick [] (by kernel_rfl), ha.sub (by kernel_rfl)⟩
              · intro a5618 w5616 ⟨o5553, hout_, M5617, hS5619⟩
                refine N_use hS5619 ?_
                subst hout_
                have hm := hm5555
                simp only [Sum.elim_inl] at hm
                refine N_then ?_
                refine G_seq ?_
                refine G_region ?_
                refine W_run 1 [(0, .slice p4356 x4354.length c4357), (189, .slice p4356 x4354.length c4357)] w5616 (by kernel_rfl) ?_
                obtain ⟨r5763, hr5763, hm⟩ := gx_bind hm
                refine W_call 50 #[.slice p4356 x4354.length c4357] (by kernel_rfl) (by kernel_rfl) ?_
                refine (c_s_DrawPutWords w5616 x4354 p4356 c4357 (h4358.mem0 M5617) hr5763).mono ?_
                rintro e_ w5774 ⟨p5765, c5766, sg5767, p5770, c5771, sg5772, rfl, ho5768, ho5773, K5775⟩
                have M5776 := M5617.call K5775
                refine ⟨_, rfl, ?_⟩
                refine W_run 3 [(0, .slice p4356 x4354.length c4357), (191, .agg #[.slice p5765 r5763.1.Items.length c5766, .int .i64 r5763.1.Head, .int .i64 r5763.1.Tail]), (192, .slice p5770 r5763.2.length c5771)] w5774 (by kernel_rfl) ?_
                refine W_new (fun b => .pointer (some ⟨b, 0, none⟩)) (.cells ⟨[.slice none 0 0, .int .i64 0, .int .i64 0]⟩ 27 (0, 0)) M5776 rfl (by kernel_rfl) (by kernel_rfl) ?_
                intro b5779 w5780 M5781
                refine W_store _ _ _ true 3 b5779 0 [.slice none 0 0, .int .i64 0, .int .i64 0] 27 (.agg #[.slice p5765 r5763.1.Items.length c5766, .int .i64 r5763.1.Head, .int .i64 r5763.1.Tail]) 2 [.slice p5765 r5763.1.Items.length c5766, .int .i64 r5763.1.Head, .int .i64 r5763.1.Tail] M5781 (by kernel_rfl) rfl (by kernel_rfl) (by kernel_rfl) (by kernel_rfl) (by kernel_rfl) (by kernel_rfl) (by kernel_rfl) (by kernel_rfl) (by kernel_rfl) ?_
                intro w5782 M5783
                refine W_run 1 [(0, .slice p4356 x4354.length c4357), (24, .pointer (some ⟨b5779, 0, none⟩)), (25, .slice p5770 r5763.2.length c5771)] w5782 (by kernel_rfl) ?_
                refine W_nil ?_
                refine N_then ?_
                refine G_seq ?_
                refine G_region ?_
                refine W_val (.agg #[.slice p5765 r5763.1.Items.length c5766, .int .i64 r5763.1.Head, .int .i64 r5763.1.Tail]) w5782 (by kernel_rfl) (E_load (e := 27) (fr := (0, 0)) _ _ true 3 b5779 0 [.slice p5765 r5763.1.Items.length c5766, .int .i64 r5763.1.Head, .int .i64 r5763.1.Tail] (.agg #[.slice p5765 r5763.1.Items.length c5766, .int .i64 r5763.1.Head, .int .i64 r5763.1.Tail]) rfl (by kernel_rfl) (by kernel_rfl) (by kernel_rfl) (M5783.blk 2 (b := b5779) (o := .cells ⟨[.slice p5765 r5763.1.Items.length c5766, .int .i64 r5763.1.Head, .int .i64 r5763.1.Tail]⟩ 27 (0, 0)) (by kernel_rfl))) ?_
                refine W_run 1 [(0, .slice p4356 x4354.length c4357), (24, .pointer (some ⟨b5779, 0, none⟩)), (25, .slice p5770 r5763.2.length c5771), (194, .agg #[.slice p5765 r5763.1.Items.length c5766, .int .i64 r5763.1.Head, .int .i64 r5763.1.Tail]), (195, .slice p5770 r5763.2.length c5771)] w5782 (by kernel_rfl) ?_
                obtain ⟨r5784, hr5784, hm⟩ := gx_bind hm
                refine W_call 40 #[.agg #[.slice p5765 r5763.1.Items.length c5766, .int .i64 r5763.1.Head, .int .i64 r5763.1.Tail], .slice p5770 r5763.2.length c5771] (by kernel_rfl) (by kernel_rfl) ?_
                refine (c_i_PutWords w5782 r5763.1 p5765 c5766 (ho5768.rd M5783 0 (by kernel_rfl)) r5763.2 p5770 c5771 (ho5773.rd M5783 1 (by kernel_rfl)) hr5784).mono ?_
                rintro e_ w5790 ⟨p5786, c5787, sg5788, rfl, ho5789, K5791⟩
                have M5792 := M5783.call K5791
                refine ⟨_, rfl, ?_⟩
                refine W_run 4 [(0, .slice p4356 x4354.length c4357), (24, .pointer (some ⟨b5779, 0, none⟩)), (25, .slice p5770 r5763.2.length c5771), (197, .agg #[.slice p5786 r5784.1.Items.length c5787, .int .i64 r5784.1.Head, .int .i64 r5784.1.Tail]), (198, .int .i64 r5784.2.1), (199, .bool r5784.2.2)] w5790 (by kernel_rfl) ?_
                refine W_new (fun b => .pointer (some ⟨b, 0, none⟩)) (.cells ⟨[.slice none 0 0, .int .i64 0, .int .i64 0]⟩ 27 (0, 0)) M5792 rfl (by kernel_rfl) (by kernel_rfl) ?_
                intro b5795 w5796 M5797
                refine W_store _ _ _ true 3 b5795 0 [.slice none 0 0, .int .i64 0, .int .i64 0] 27 (.agg #[.slice p5786 r5784.1.Items.length c5787, .int .i64 r5784.1.Head, .int .i64 r5784.1.Tail]) 4 [.slice p5786 r5784.1.Items.length c5787, .int .i64 r5784.1.Head, .int .i64 r5784.1.Tail] M5797 (by kernel_rfl) rfl (by kernel_rfl) (by kernel_rfl) (by kernel_rfl) (by kernel_rfl) (by kernel_rfl) (by kernel_rfl) (by kernel_rfl) (by kernel_rfl) ?_
                intro w5798 M5799
                refine W_run 2 [(0, .slice p4356 x4354.length c4357), (24, .pointer (some ⟨b5779, 0, none⟩)), (25, .slice p5770 r5763.2.length c5771), (26, .pointer (some ⟨b5795, 0, none⟩)), (27, .int .i64 r5784.2.1), (28, .bool r5784.2.2)] w5798 (by kernel_rfl) ?_
                refine W_nil ?_
                refine N_then ?_
                refine G_seq ?_
                refine G_seq ?_
                refine G_region ?_
                refine W_val (.agg #[.slice p5765 r5763.1.Items.length c5766, .int .i64 r5763.1.Head, .int .i64 r5763.1.Tail]) w5798 (by kernel_rfl) (E_load (e := 27) (fr := (0, 0)) _ _ true 3 b5779 0 [.slice p5765 r5763.1.Items.length c5766, .int .i64 r5763.1.Head, .int .i64 r5763.1.Tail] (.agg #[.slice p5765 r5763.1.Items.length c5766, .int .i64 r5763.1.Head, .int .i64 r5763.1.Tail]) rfl (by kernel_rfl) (by kernel_rfl) (by kernel_rfl) (M5799.blk 2 (b := b5779) (o := .cells ⟨[.slice p5765 r5763.1.Items.length c5766, .int .i64 r5763.1.Head, .int .i64 r5763.1.Tail]⟩ 27 (0, 0)) (by kernel_rfl))) ?_
                refine W_run 1 [(0, .slice p4356 x4354.length c4357), (24, .pointer (some ⟨b5779, 0, none⟩)), (25, .slice p5770 r5763.2.length c5771), (26, .pointer (some ⟨b5795, 0, none⟩)), (27, .int .i64 r5784.2.1), (28, .bool r5784.2.2), (201, .agg #[.slice p5765 r5763.1.Items.length c5766, .int .i64 r5763.1.Head, .int .i64 r5763.1.Tail]), (202, .slice p5770 r5763.2.length c5771)] w5798 (by kernel_rfl) ?_
                obtain ⟨r6163, hr6163, hm⟩ := gx_bind hm
                refine W_call 38 #[.agg #[.slice p5765 r5763.1.Items.length c5766, .int .i64 r5763.1.Head, .int .i64 r5763.1.Tail], .slice p5770 r5763.2.length c5771] (by kernel_rfl) (by kernel_rfl) ?_
                refine (c_s_PutWords w5798 r5763.1 p5765 c5766 (ho5768.rd M5799 0 (by kernel_rfl)) r5763.2 p5770 c5771 (ho5773.rd M5799 1 (by kernel_rfl)) hr6163).mono ?_
                rintro e_ w6169 ⟨p6165, c6166, sg6167, rfl, ho6168, K6170⟩
                have M6171 := M5799.call K6170
                refine ⟨_, rfl, ?_⟩
                refine W_run 4 [(0, .slice p4356 x4354.length c4357), (24, .pointer (some ⟨b5779, 0, none⟩)), (25, .slice p5770 r5763.2.length c5771), (26, .pointer (some ⟨b5795, 0, none⟩)), (27, .int .i64 r5784.2.1), (28, .bool r5784.2.2), (204, .agg #[.slice p6165 r6163.1.Items.length c6166, .int .i64 r6163.1.Head, .int .i64 r6163.1.Tail]), (205, .int .i64 r6163.2.1), (206, .bool r6163.2.2)] w6169 (by kernel_rfl) ?_
                refine W_new (fun b => .pointer (some ⟨b, 0, none⟩)) (.cells ⟨[.slice none 0 0, .int .i64 0, .int .i64 0]⟩ 27 (0, 0)) M6171 rfl (by kernel_rfl) (by kernel_rfl) ?_
                intro b6174 w6175 M6176
                refine W_store _ _ _ true 3 b6174 0 [.slice none 0 0, .int .i64 0, .int .i64 0] 27 (.agg #[.slice p6165 r6163.1.Items.length c6166, .int .i64 r6163.1.Head, .int .i64 r6163.1.Tail]) 6 [.slice p6165 r6163.1.Items.length c6166, .int .i64 r6163.1.Head, .int .i64 r6163.1.Tail] M6176 (by kernel_rfl) rfl (by kernel_rfl) (by kernel_rfl) (by kernel_rfl) (by kernel_rfl) (by kernel_rfl) (by kernel_rfl) (by kernel_rfl) (by kernel_rfl) ?_
                intro w6177 M6178
                refine W_run 2 [(0, .slice p4356 x4354.length c4357), (24, .pointer (some ⟨b5779, 0, none⟩)), (25, .slice p5770 r5763.2.length c5771), (26, .pointer (some ⟨b5795, 0, none⟩)), (27, .int .i64 r5784.2.1), (28, .bool r5784.2.2), (29, .pointer (some ⟨b6174, 0, none⟩)), (30, .int .i64 r6163.2.1), (31, .bool r6163.2.2)] w6177 (by kernel_rfl) ?_
                refine W_nil ?_
                refine N_then ?_
                refine G_seq ?_
                obtain ⟨o6185, ho6186, hm6187⟩ := gx_bind hm
                refine G_meet (fun a w' => Mem [] w w' [sg5767, sg5772, [(b5779, .cells ⟨[.slice p5765 r5763.1.Items.length c5766, .int .i64 r5763.1.Head, .int .i64 r5763.1.Tail]⟩ 27 (0, 0))], sg5788, [(b5795, .cells ⟨[.slice p5786 r5784.1.Items.length c5787, .int .i64 r5784.1.Head, .int .i64 r5784.1.Tail]⟩ 27 (0, 0))]] ∧ Sat Try.f13.ntmps [(0, .slice p4356 x4354.length c4357), (24, .pointer (some ⟨b5779, 0, none⟩)), (25, .slice p5770 r5763.2.length c5771), (26, .pointer (some ⟨b5795, 0, none⟩)), (27, .int .i64 r5784.2.1), (28, .bool r5784.2.2), (220, .bool o6185)] a) ?_ ?_
                · have hm := ho6186
                  refine G_region ?_
                  refine W_run 4 [(0, .slice p4356 x4354.length c4357), (24, .pointer (some ⟨b5779, 0, none⟩)), (25, .slice p5770 r5763.2.length c5771), (26, .pointer (some ⟨b5795, 0, none⟩)), (27, .int .i64 r5784.2.1), (28, .bool r5784.2.2), (29, .pointer (some ⟨b6174, 0, none⟩)), (30, .int .i64 r6163.2.1), (210, .bool (!(r5784.2.2 == r6163.2.2)))] w6177 (by kernel_rfl) ?_
                  rcases gx_bif hm with ⟨hc6188, hm⟩ | ⟨hc6188, hm⟩
                  · refine W_known 210 true (by kernel_rfl) hc6188 ?_
                    refine W_run 10 [(0, .slice p4356 x4354.length c4357), (24, .pointer (some ⟨b5779, 0, none⟩)), (25, .slice p5770 r5763.2.length c5771), (26, .pointer (some ⟨b5795, 0, none⟩)), (27, .int .i64 r5784.2.1), (28, .bool r5784.2.2), (220, .bool true)] w6177 (by kernel_rfl) ?_
                    refine W_nil ?_
                    obtain rfl := Option.some.inj hm
                    exact N_meet fun a ha => ⟨M6178.pick [0, 1, 2, 3, 4] (by kernel_rfl), ha.sub (by kernel_rfl)⟩
                  · refine W_known 210 false (by kernel_rfl) hc6188 ?_
                    refine W_run 5 [(0, .slice p4356 x4354.length c4357), (24, .pointer (some ⟨b5779, 0, none⟩)), (25, .slice p5770 r5763.2.length c5771), (26, .pointer (some ⟨b5795, 0, none⟩)), (27, .int .i64 r5784.2.1), (28, .bool r5784.2.2), (29, .pointer (some ⟨b6174, 0, none⟩)), (215, .bool (r5784.2.1 != r6163.2.1))] w6177 (by kernel_rfl) ?_
                    rcases gx_bif hm with ⟨hc6189, hm⟩ | ⟨hc6189, hm⟩
                    · refine W_known 215 true (by kernel_rfl) hc6189 ?_
                      refine W_run 5 [(0, .slice p4356 x4354.length c4357), (24, .pointer (some ⟨b5779, 0, none⟩)), (25, .slice p5770 r5763.2.length c5771), (26, .pointer (some ⟨b5795, 0, none⟩)), (27, .int .i64 r5784.2.1), (28, .bool r5784.2.2), (220, .bool true)] w6177 (by kernel_rfl) ?_
                      refine W_nil ?_
                      obtain rfl := Option.some.inj hm
                      exact N_meet fun a ha => ⟨M6178.pick [0, 1, 2, 3, 4] (by kernel_rfl), ha.sub (by kernel_rfl)⟩
                    · refine W_known 215 false (by kernel_rfl) hc6189 ?_
                      refine W_val (.agg #[.slice p5786 r5784.1.Items.length c5787, .int .i64 r5784.1.Head, .int .i64 r5784.1.Tail]) w6177 (by kernel_rfl) (E_load (e := 27) (fr := (0, 0)) _ _ true 3 b5795 0 [.slice p5786 r5784.1.Items.length c5787, .int .i64 r5784.1.Head, .int .i64 r5784.1.Tail] (.agg #[.slice p5786 r5784.1.Items.length c5787, .int .i64 r5784.1.Head, .int .i64 r5784.1.Tail]) rfl (by kernel_rfl) (by kernel_rfl) (by kernel_rfl) (M6178.blk 4 (b := b5795) (o := .cells ⟨[.slice p5786 r5784.1.Items.length c5787, .int .i64 r5784.1.Head, .int .i64 r5784.1.Tail]⟩ 27 (0, 0)) (by kernel_rfl))) ?_
                      refine W_val (.agg #[.slice p6165 r6163.1.Items.length c6166, .int .i64 r6163.1.Head, .int .i64 r6163.1.Tail]) w6177 (by kernel_rfl) (E_load (e := 27) (fr := (0, 0)) _ _ true 3 b6174 0 [.slice p6165 r6163.1.Items.length c6166, .int .i64 r6163.1.Head, .int .i64 r6163.1.Tail] (.agg #[.slice p6165 r6163.1.Items.length c6166, .int .i64 r6163.1.Head, .int .i64 r6163.1.Tail]) rfl (by kernel_rfl) (by kernel_rfl) (by kernel_rfl) (M6178.blk 6 (b := b6174) (o := .cells ⟨[.slice p6165 r6163.1.Items.length c6166, .int .i64 r6163.1.Head, .int .i64 r6163.1.Tail]⟩ 27 (0, 0)) (by kernel_rfl))) ?_
                      obtain ⟨r6190, hr6190, hm⟩ := gx_bind hm
                      refine W_call 44 #[.agg #[.slice p5786 r5784.1.Items.length c5787, .int .i64 r5784.1.Head, .int .i64 r5784.1.Tail], .agg #[.slice p6165 r6163.1.Items.length c6166, .int .i64 r6163.1.Head, .int .i64 r6163.1.Tail]] (by kernel_rfl) (by kernel_rfl) ?_
                      refine (c_l_vRing w6177 r5784.1 p5786 c5787 (ho5789.rd M6178 3 (by kernel_rfl)) r6163.1 p6165 c6166 (ho6168.rd M6178 5 (by kernel_rfl)) hr6190).mono ?_
                      rintro e_ w6191 ⟨rfl, K6192⟩
                      have M6193 := M6178.call0 K6192
                      refine ⟨_, rfl, ?_⟩
                      refine W_run 2 [(0, .slice p4356 x4354.length c4357), (24, .pointer (some ⟨b5779, 0, none⟩)), (25, .slice p5770 r5763.2.length c5771), (26, .pointer (some ⟨b5795, 0, none⟩)), (27, .int .i64 r5784.2.1), (28, .bool r5784.2.2), (220, .bool (!r6190))] w6191 (by kernel_rfl) ?_
                      refine W_nil ?_
                      obtain rfl := Option.some.inj hm
                      exact N_meet fun a ha => ⟨M6193.pick [0, 1, 2, 3, 4] (by kernel_rfl), ha.sub (by kernel_rfl)⟩
                · intro a6196 w6194 ⟨M6195, hS6197⟩
                  refine N_use hS6197 ?_
                  have hm := hm6187
                  refine N_then ?_
                  rcases gx_bif hm with ⟨hc6198, hm⟩ | ⟨hc6198, hm⟩
                  · refine G_cond_t (b := o6185) hc6198 (by kernel_rfl) ?_
                    refine G_seq ?_
                    refine G_region ?_
                    refine W_run 1 [(2, .bool false)] w6194 (by kernel_rfl) ?_
                    refine W_nil ?_
                    refine N_then ?_
                    refine G_ret ?_
                    refine N_then_ret ?_
                    obtain rfl := Option.some.inj hm
                    refine N_ret [.bool false] (RVs_cons (RV_tmp (by kernel_rfl)) RVs_nil) ?_
                    exact ⟨rfl, M6195.pick [] (by kernel_rfl)⟩
                  · refine G_cond_f (b := o6185) hc6198 (by kernel_rfl) ?_
                    refine G_skip ?_
                    refine N_then ?_
                    refine G_seq ?_
                    refine G_seq ?_
                    refine G_region ?_
                    refine W_run 1 [(0, .slice p4356 x4354.length c4357), (24, .pointer (some ⟨b5779, 0, none⟩)), (25, .slice p5770 r5763.2.length c5771), (26, .pointer (some ⟨b5795, 0, none⟩)), (27, .int .i64 r5784.2.1), (221, .bool r5784.2.2)] w6194 (by kernel_rfl) ?_
                    refine W_nil ?_
                    refine N_then ?_
                    obtain ⟨out7509, ho7507, hm7508⟩ := gx_bind hm
                    refine G_meet (fun a w' => ∃ (o7506 : Unit), out7509 = .inl o7506 ∧ Mem [] w w' [] ∧ Sat Try.f13.ntmps [(0, .slice p4356 x4354.length c4357)] a) ?_ ?_
                    · have hm := ho7507
                      rcases gx_bif hm with ⟨hc7510, hm⟩ | ⟨hc7510, hm⟩
                      · refine G_cond_t (b := r5784.2.2) hc7510 (by kernel_rfl) ?_
                        refine G_seq ?_
                        refine G_region ?_
                        refine W_val (.agg #[.slice p5765 r5763.1.Items.length c5766, .int .i64 r5763.1.Head, .int .i64 r5763.1.Tail]) w6194 (by kernel_rfl) (E_load (e := 27) (fr := (0, 0)) _ _ true 3 b5779 0 [.slice p5765 r5763.1.Items.length c5766, .int .i64 r5763.1.Head, .int .i64 r5763.1.Tail] (.agg #[.slice p5765 r5763.1.Items.length c5766, .int .i64 r5763.1.Head, .int .i64 r5763.1.Tail]) rfl (by kernel_rfl) (by kernel_rfl) (by kernel_rfl) (M6195.blk 2 (b := b5779) (o := .cells ⟨[.slice p5765 r5763.1.Items.length c5766, .int .i64 r5763.1.Head, .int .i64 r5763.1.Tail]⟩ 27 (0, 0)) (by kernel_rfl))) ?_
                        obtain ⟨r7511, hr7511, hm⟩ := gx_bind hm
                        refine W_call 26 #[.agg #[.slice p5765 r5763.1.Items.length c5766, .int .i64 r5763.1.Head, .int .i64 r5763.1.Tail]] (by kernel_rfl) (by kernel_rfl) ?_
                        refine (c_i_RingWords w6194 r5763.1 p5765 c5766 (ho5768.rd M6195 0 (by kernel_rfl)) hr7511).mono ?_
                        rintro e_ w7517 ⟨p7513, c7514, sg7515, rfl, ho7516, K7518⟩
                        have M7519 := M6195.call K7518
                        refine ⟨_, rfl, ?_⟩
                        refine W_run 5 [(0, .slice p4356 x4354.length c4357), (24, .pointer (some ⟨b5779, 0, none⟩)), (25, .slice p5770 r5763.2.length c5771), (26, .pointer (some ⟨b5795, 0, none⟩)), (27, .int .i64 r5784.2.1), (32, .slice p7513 r7511.1.length c7514), (33, .bool r7511.2)] w7517 (by kernel_rfl) ?_
                        refine W_nil ?_
                        refine N_then ?_
                        refine G_seq ?_
                        refine G_region ?_
                        refine W_val (.agg #[.slice p5786 r5784.1.Items.length c5787, .int .i64 r5784.1.Head, .int .i64 r5784.1.Tail]) w7517 (by kernel_rfl) (E_load (e := 27) (fr := (0, 0)) _ _ true 3 b5795 0 [.slice p5786 r5784.1.Items.length c5787, .int .i64 r5784.1.Head, .int .i64 r5784.1.Tail] (.agg #[.slice p5786 r5784.1.Items.length c5787, .int .i64 r5784.1.Head, .int .i64 r5784.1.Tail]) rfl (by kernel_rfl) (by kernel_rfl) (by kernel_rfl) (M7519.blk 4 (b := b5795) (o := .cells ⟨[.slice p5786 r5784.1.Items.length c5787, .int .i64 r5784.1.Head, .int .i64 r5784.1.Tail]⟩ 27 (0, 0)) (by kernel_rfl))) ?_
                        obtain ⟨r7520, hr7520, hm⟩ := gx_bind hm
                        refine W_call 26 #[.agg #[.slice p5786 r5784.1.Items.length c5787, .int .i64 r5784.1.Head, .int .i64 r5784.1.Tail]] (by kernel_rfl) (by kernel_rfl) ?_
                        refine (c_i_RingWords w7517 r5784.1 p5786 c5787 (ho5789.rd M7519 3 (by kernel_rfl)) hr7520).mono ?_
                        rintro e_ w7526 ⟨p7522, c7523, sg7524, rfl, ho7525, K7527⟩
                        have M7528 := M7519.call K7527
                        refine ⟨_, rfl, ?_⟩
                        refine W_run 5 [(0, .slice p4356 x4354.length c4357), (24, .pointer (some ⟨b5779, 0, none⟩)), (25, .slice p5770 r5763.2.length c5771), (27, .int .i64 r5784.2.1), (32, .slice p7513 r7511.1.length c7514), (33, .bool r7511.2), (34, .slice p7522 r7520.1.length c7523), (35, .bool r7520.2)] w7526 (by kernel_rfl) ?_
                        refine W_nil ?_
                        refine N_then ?_
                        refine G_seq ?_
                        obtain ⟨o8169, ho8170, hm8171⟩ := gx_bind hm
                        refine G_meet (fun a w' => Mem [] w w' [] ∧ Sat Try.f13.ntmps [(0, .slice p4356 x4354.length c4357), (263, .bool o8169)] a) ?_ ?_
                        · have hm := ho8170
                          rcases gx_bif hm with ⟨hc8174, hm⟩ | ⟨hc8174, hm⟩
                          · refine G_sub [(0, .slice p4356 x4354.length c4357), (24, .pointer (some ⟨b5779, 0, none⟩)), (25, .slice p5770 r5763.2.length c5771), (27, .int .i64 r5784.2.1), (32, .slice p7513 r7511.1.length c7514), (33, .bool r7511.2), (34, .slice p7522 r7520.1.length c7523), (35, .bool r7520.2)] (by kernel_rfl) ?_
                            refine G_dagL 29 [[], [0], [1], [2], [2], [2, 4], [5], [6], [6], [6], [6], [6], [6], [6], [6], [6], [6], [6, 16], [17], [18], [18], [18], [18], [18], [23], [23], [23], [23], [23]] [[], [], [], [], [], [], [], [], [], [], [], [], [], [], [], [], [], [], [], [], [], [], [], [], [], [], [], [], []] [[], [], [], [], [], [], [], [], [], [], [], [], [], [], [], [], [], [], [], [], [], [], [], [], [], [], [], [], []] [[], [], [], [], [], [], [], [], [], [], [], [], [], [], [], [], [], [], [], [], [], [], [], [], [], [], [], [], []] [[], [], [], [], [], [], [], [], [], [], [], [], [], [], [], [], [], [], [], [], [], [], [], [], [], [], [], [], []] [[], [], [], [], [], [], [], [], [], [], [], [], [], [], [], [], [], [], [], [], [], [], [], [], [], [], [], [], []] (fun _ => []) (fun i => ([fun f v s => v = (.bool r7511.2 : Value) ∧ s = [], fun f v s => v = (.bool (!r7511.2) : Value) ∧ s = [], fun f v s => v = (.bool true : Value) ∧ s = [], fun f v s => v = (undef : Value) ∧ s = [], fun f v s => v = (undef : Value) ∧ s = [], fun f v s => v = (.bool true : Value) ∧ s = [], fun f v s => v = (.bool true : Value) ∧ s = [], fun f v s => v = (undef : Value) ∧ s = [], fun f v s => v = (undef : Value) ∧ s = [], fun f v s => v = (undef : Value) ∧ s = [], fun f v s => v = (undef : Value) ∧ s = [], fun f v s => v = (undef : Value) ∧ s = [], fun f v s => v = (undef : Value) ∧ s = [], fun f v s => v = (undef : Value) ∧ s = [], fun f v s => v = (undef : Value) ∧ s = [], fun f v s => v = (undef : Value) ∧ s = [], fun f v s => v = (undef : Value) ∧ s = [], fun f v s => v = (.bool true : Value) ∧ s = [], fun f v s => v = (.bool true : Value) ∧ s = [], fun f v s => v = (undef : Value) ∧ s = [], fun f v s => v = (undef : Value) ∧ s = [], fun f v s => v = (undef : Value) ∧ s = [], fun f v s => v = (undef : Value) ∧ s = [], fun f v s => v = (undef : Value) ∧ s = [], fun f v s => v = (undef : Value) ∧ s = [], fun f v s => v = (undef : Value) ∧ s = [], fun f v s => v = (undef : Value) ∧ s = [], fun f v s => v = (undef : Value) ∧ s = [], fun f v s => v = (undef : Value) ∧ s = []] : List ((Nat → Value) → Value → Seg → Prop)).getD i (fun _ _ _ => False)) (fun j f v => ∃ s, (fun i => ([fun f v s => v = (.bool r7511.2 : Value) ∧ s = [], fun f v s => v = (.bool (!r7511.2) : Value) ∧ s = [], fun f v s => v = (.bool true : Value) ∧ s = [], fun f v s => v = (undef : Value) ∧ s = [], fun f v s => v = (undef : Value) ∧ s = [], fun f v s => v = (.bool true : Value) ∧ s = [], fun f v s => v = (.bool true : Value) ∧ s = [], fun f v s => v = (undef : Value) ∧ s = [], fun f v s => v = (undef : Value) ∧ s = [], fun f v s => v = (undef : Value) ∧ s = [], fun f v s => v = (undef : Value) ∧ s = [], fun f v s => v = (undef : Value) ∧ s = [], fun f v s => v = (undef : Value) ∧ s = [], fun f v s => v = (undef : Value) ∧ s = [], fun f v s => v = (undef : Value) ∧ s = [], fun f v s => v = (undef : Value) ∧ s = [], fun f v s => v = (undef : Value) ∧ s = [], fun f v s => v = (.bool true : Value) ∧ s = [], fun f v s => v = (.bool true : Value) ∧ s = [], fun f v s => v = (undef : Value) ∧ s = [], fun f v s => v = (undef : Value) ∧ s = [], fun f v s => v = (undef : Value) ∧ s = [], fun f v s => v = (undef : Value) ∧ s = [], fun f v s => v = (undef : Value) ∧ s = [], fun f v s => v = (undef : Value) ∧ s = [], fun f v s => v = (undef : Value) ∧ s = [], fun f v s => v = (undef : Value) ∧ s = [], fun f v s => v = (undef : Value) ∧ s = [], fun f v s => v = (undef : Value) ∧ s = []] : List ((Nat → Value) → Value → Seg → Prop)).getD i (fun _ _ _ => False)) j f v s) [] [18, 23, 25, 28] [] (fun _ _ _ s h => ⟨s, h⟩) (by kernel_rfl) (by kernel_rfl) (M7528.preNil 29) (by kernel_rfl) (by kernel_rfl) (by kernel_rfl) (by kernel_rfl) (allOb_cons ?_ (allOb_cons ?_ (allOb_cons ?_ (allOb_cons ?_ (allOb_cons ?_ (allOb_cons ?_ (allOb_cons ?_ (allOb_cons ?_ (allOb_cons ?_ (allOb_cons ?_ (allOb_cons ?_ (allOb_cons ?_ (allOb_cons ?_ (allOb_cons ?_ (allOb_cons ?_ (allOb_cons ?_ (allOb_cons ?_ (allOb_cons ?_ (allOb_cons ?_ (allOb_cons ?_ (allOb_cons ?_ (allOb_cons ?_ (allOb_cons ?_ (allOb_cons ?_ (allOb_cons ?_ (allOb_cons ?_ (allOb_cons ?_ (allOb_cons ?_ (allOb_cons ?_ allOb_nil))))))))))))))))))))))))))))) ?_
                            · intro g8175 f8176
                              intro R w8177 M8178
                              refine W_run 1 [(232, .bool r7511.2)] w8177 (by kernel_rfl) ?_
                              exact W_nil (ob_end (.bool r7511.2) [] rfl (by kernel_rfl) ⟨by kernel_rfl, rfl⟩ M8178)
                            · intro g8175 f8176
                              intro v0_ hb0_
                              obtain ⟨rfl, _⟩ := hb0_
                              intro R w8181 M8182
                              refine W_run 1 [(233, .bool (!r7511.2))] w8181 (by kernel_rfl) ?_
                              exact W_nil (ob_end (.bool (!r7511.2)) [] rfl (by kernel_rfl) ⟨by kernel_rfl, rfl⟩ M8182)
                            · intro g8175 f8176
                              intro v1_ hb1_
                              obtain ⟨rfl, _⟩ := hb1_
                              intro R w8185 M8186
                              refine W_run 1 [(234, .bool (!r7511.2))] w8185 (by kernel_rfl) ?_
                              refine W_conv 234 (.bool (!r7511.2)) (.bool true) (by kernel_rfl) (by rw [hc8174]) ?_
                              exact W_nil (ob_end (.bool true) [] rfl (by kernel_rfl) ⟨by kernel_rfl, rfl⟩ M8186)
                            · intro g8175 f8176
                              intro v2_ hb2_
                              obtain ⟨rfl, _⟩ := hb2_
                              intro R w8189 M8190
                              refine W_run 1 [(235, undef)] w8189 (by kernel_rfl) ?_
                              exact W_nil (ob_end (undef) [] rfl (by kernel_rfl) ⟨by kernel_rfl, rfl⟩ M8190)
                            · intro g8175 f8176
                              intro v2_ hb2_
                              obtain ⟨rfl, _⟩ := hb2_
                              intro R w8193 M8194
                              refine W_run 1 [(236, undef)] w8193 (by kernel_rfl) ?_
                              exact W_nil (ob_end (undef) [] rfl (by kernel_rfl) ⟨by kernel_rfl, rfl⟩ M8194)
                            · intro g8175 f8176
                              intro v2_ hb2_
                              obtain ⟨rfl, _⟩ := hb2_
                              intro v4_ hb4_
                              obtain ⟨rfl, _⟩ := hb4_
                              intro R w8197 M8198
                              refine W_run 1 [(237, .bool true)] w8197 (by kernel_rfl) ?_
                              exact W_nil (ob_end (.bool true) [] rfl (by kernel_rfl) ⟨by kernel_rfl, rfl⟩ M8198)
                            · intro g8175 f8176
                              intro v5_ hb5_
                              obtain ⟨rfl, _⟩ := hb5_
                              intro R w8201 M8202
                              refine W_run 1 [(238, .bool true)] w8201 (by kernel_rfl) ?_
                              exact W_nil (ob_end (.bool true) [] rfl (by kernel_rfl) ⟨by kernel_rfl, rfl⟩ M8202)
                            · intro g8175 f8176
                              intro v6_ hb6_
                              obtain ⟨rfl, _⟩ := hb6_
                              intro R w8205 M8206
                              refine W_run 1 [(239, undef)] w8205 (by kernel_rfl) ?_
                              exact W_nil (ob_end (undef) [] rfl (by kernel_rfl) ⟨by kernel_rfl, rfl⟩ M8206)
                            · intro g8175 f8176
                              intro v6_ hb6_
                              obtain ⟨rfl, _⟩ := hb6_
                              intro R w8209 M8210
                              refine W_run 1 [(240, undef)] w8209 (by kernel_rfl) ?_
                              exact W_nil (ob_end (undef) [] rfl (by kernel_rfl) ⟨by kernel_rfl, rfl⟩ M8210)
                            · intro g8175 f8176
                              intro v6_ hb6_
                              obtain ⟨rfl, _⟩ := hb6_
                              intro R w8213 M8214
                              refine W_run 1 [(241, undef)] w8213 (by kernel_rfl) ?_
                              exact W_nil (ob_end (undef) [] rfl (by kernel_rfl) ⟨by kernel_rfl, rfl⟩ M8214)
                            · intro g8175 f8176
                              intro v6_ hb6_
                              obtain ⟨rfl, _⟩ := hb6_
                              intro R w8217 M8218
                              refine W_run 1 [(242, undef)] w8217 (by kernel_rfl) ?_
                              exact W_nil (ob_end (undef) [] rfl (by kernel_rfl) ⟨by kernel_rfl, rfl⟩ M8218)
                            · intro g8175 f8176
                              intro v6_ hb6_
                              obtain ⟨rfl, _⟩ := hb6_
                              intro R w8221 M8222
                              refine W_run 1 [(243, undef)] w8221 (by kernel_rfl) ?_
                              exact W_nil (ob_end (undef) [] rfl (by kernel_rfl) ⟨by kernel_rfl, rfl⟩ M8222)
                            · intro g8175 f8176
                              intro v6_ hb6_
                              obtain ⟨rfl, _⟩ := hb6_
                              intro R w8225 M8226
                              refine W_run 1 [(244, undef)] w8225 (by kernel_rfl) ?_
                              exact W_nil (ob_end (undef) [] rfl (by kernel_rfl) ⟨by kernel_rfl, rfl⟩ M8226)
                            · intro g8175 f8176
                              intro v6_ hb6_
                              obtain ⟨rfl, _⟩ := hb6_
                              intro R w8229 M8230
                              refine W_run 1 [(245, undef)] w8229 (by kernel_rfl) ?_
                              exact W_nil (ob_end (undef) [] rfl (by kernel_rfl) ⟨by kernel_rfl, rfl⟩ M8230)
                            · intro g8175 f8176
                              intro v6_ hb6_
                              obtain ⟨rfl, _⟩ := hb6_
                              intro R w8233 M8234
                              refine W_run 1 [(246, undef)] w8233 (by kernel_rfl) ?_
                              exact W_nil (ob_end (undef) [] rfl (by kernel_rfl) ⟨by kernel_rfl, rfl⟩ M8234)
                            · intro g8175 f8176
                              intro v6_ hb6_
                              obtain ⟨rfl, _⟩ := hb6_
                              intro R w8237 M8238
                              refine W_run 1 [(247, undef)] w8237 (by kernel_rfl) ?_
                              exact W_nil (ob_end (undef) [] rfl (by kernel_rfl) ⟨by kernel_rfl, rfl⟩ M8238)
                            · intro g8175 f8176
                              intro v6_ hb6_
                              obtain ⟨rfl, _⟩ := hb6_
                              intro R w8241 M8242
                              refine W_run 1 [(248, undef)] w8241 (by kernel_rfl) ?_
                              exact W_nil (ob_end (undef) [] rfl (by kernel_rfl) ⟨by kernel_rfl, rfl⟩ M8242)
                            · intro g8175 f8176
                              intro v6_ hb6_
                              obtain ⟨rfl, _⟩ := hb6_
                              intro v16_ hb16_
                              obtain ⟨rfl, _⟩ := hb16_
                              intro R w8245 M8246
                              refine W_run 1 [(249, .bool true)] w8245 (by kernel_rfl) ?_
                              exact W_nil (ob_end (.bool true) [] rfl (by kernel_rfl) ⟨by kernel_rfl, rfl⟩ M8246)
                            · intro g8175 f8176
                              intro v17_ hb17_
                              obtain ⟨rfl, _⟩ := hb17_
                              intro R w8249 M8250
                              refine W_run 1 [(250, .bool true)] w8249 (by kernel_rfl) ?_
                              exact W_nil (ob_end (.bool true) [] rfl (by kernel_rfl) ⟨by kernel_rfl, rfl⟩ M8250)
                            · intro g8175 f8176
                              intro v18_ hb18_
                              obtain ⟨rfl, _⟩ := hb18_
                              intro R w8253 M8254
                              refine W_run 1 [(251, undef)] w8253 (by kernel_rfl) ?_
                              exact W_nil (ob_end (undef) [] rfl (by kernel_rfl) ⟨by kernel_rfl, rfl⟩ M8254)
                            · intro g8175 f8176
                              intro v18_ hb18_
                              obtain ⟨rfl, _⟩ := hb18_
                              intro R w8257 M8258
                              refine W_run 1 [(252, undef)] w8257 (by kernel_rfl) ?_
                              exact W_nil (ob_end (undef) [] rfl (by kernel_rfl) ⟨by kernel_rfl, rfl⟩ M8258)
                            · intro g8175 f8176
                              intro v18_ hb18_
                              obtain ⟨rfl, _⟩ := hb18_
                              intro R w8261 M8262
                              refine W_run 1 [(253, undef)] w8261 (by kernel_rfl) ?_
                              exact W_nil (ob_end (undef) [] rfl (by kernel_rfl) ⟨by kernel_rfl, rfl⟩ M8262)
                            · intro g8175 f8176
                              intro v18_ hb18_
                              obtain ⟨rfl, _⟩ := hb18_
                              intro R w8265 M8266
                              refine W_run 1 [(254, undef)] w8265 (by kernel_rfl) ?_
                              exact W_nil (ob_end (undef) [] rfl (by kernel_rfl) ⟨by kernel_rfl, rfl⟩ M8266)
                            · intro g8175 f8176
                              intro v18_ hb18_
                              obtain ⟨rfl, _⟩ := hb18_
                              intro R w8269 M8270
                              refine W_run 1 [(255, undef)] w8269 (by kernel_rfl) ?_
                              exact W_nil (ob_end (undef) [] rfl (by kernel_rfl) ⟨by kernel_rfl, rfl⟩ M8270)
                            · intro g8175 f8176
                              intro v23_ hb23_
                              obtain ⟨rfl, _⟩ := hb23_
                              intro R w8273 M8274
                              refine W_run 1 [(256, undef)] w8273 (by kernel_rfl) ?_
                              exact W_nil (ob_end (undef) [] rfl (by kernel_rfl) ⟨by kernel_rfl, rfl⟩ M8274)
                            · intro g8175 f8176
                              intro v23_ hb23_
                              obtain ⟨rfl, _⟩ := hb23_
                              intro R w8277 M8278
                              refine W_run 1 [(257, undef)] w8277 (by kernel_rfl) ?_
                              exact W_nil (ob_end (undef) [] rfl (by kernel_rfl) ⟨by kernel_rfl, rfl⟩ M8278)
                            · intro g8175 f8176
                              intro v23_ hb23_
                              obtain ⟨rfl, _⟩ := hb23_
                              intro R w8281 M8282
                              refine W_run 1 [(258, undef)] w8281 (by kernel_rfl) ?_
                              exact W_nil (ob_end (undef) [] rfl (by kernel_rfl) ⟨by kernel_rfl, rfl⟩ M8282)
                            · intro g8175 f8176
                              intro v23_ hb23_
                              obtain ⟨rfl, _⟩ := hb23_
                              intro R w8285 M8286
                              refine W_run 1 [(259, undef)] w8285 (by kernel_rfl) ?_
                              exact W_nil (ob_end (undef) [] rfl (by kernel_rfl) ⟨by kernel_rfl, rfl⟩ M8286)
                            · intro g8175 f8176
                              intro v23_ hb23_
                              obtain ⟨rfl, _⟩ := hb23_
                              intro R w8289 M8290
                              refine W_run 1 [(260, undef)] w8289 (by kernel_rfl) ?_
                              exact W_nil (ob_end (undef) [] rfl (by kernel_rfl) ⟨by kernel_rfl, rfl⟩ M8290)
                            · intro g8175 f8176
                              intro v18_ hb18_
                              obtain ⟨rfl, _⟩ := hb18_
                              intro v23_ hb23_
                              obtain ⟨rfl, _⟩ := hb23_
                              intro v25_ hb25_
                              obtain ⟨rfl, _⟩ := hb25_
                              intro v28_ hb28_
                              obtain ⟨rfl, _⟩ := hb28_
                              intro w8293 M8294
                              have M8295 : Mem [] w w8293 [sg5767, sg5772, [(b5779, .cells ⟨[.slice p5765 r5763.1.Items.length c5766, .int .i64 r5763.1.Head, .int .i64 r5763.1.Tail]⟩ 27 (0, 0))], sg5788, [(b5795, .cells ⟨[.slice p5786 r5784.1.Items.length c5787, .int .i64 r5784.1.Head, .int .i64 r5784.1.Tail]⟩ 27 (0, 0))], sg7515, sg7524] := M8294
                              refine W_run 3 [(0, .slice p4356 x4354.length c4357), (263, .bool true)] w8293 (by kernel_rfl) ?_
                              refine W_nil ?_
                              obtain rfl := Option.some.inj hm
                              exact N_meet fun a ha => ⟨M8295.pick [] (by kernel_rfl), ha.sub (by kernel_rfl)⟩
                          · rcases gx_bif hm with ⟨hc8298, hm⟩ | ⟨hc8298, hm⟩
                            · refine G_sub [(0, .slice p4356 x4354.length c4357), (24, .pointer (some ⟨b5779, 0, none⟩)), (25, .slice p5770 r5763.2.length c5771), (27, .int .i64 r5784.2.1), (32, .slice p7513 r7511.1.length c7514), (33, .bool r7511.2), (34, .slice p7522 r7520.1.length c7523), (35, .bool r7520.2)] (by kernel_rfl) ?_
                              refine G_dagL 29 [[], [0], [1], [2], [2, 3], [2, 4], [5], [6], [6], [6], [6], [6], [6], [6], [6], [6], [6], [6, 16], [17], [18], [18], [18], [18], [18], [23], [23], [23], [23], [23]] [[], [], [], [], [], [], [], [], [], [], [], [], [], [], [], [], [], [], [], [], [], [], [], [], [], [], [], [], []] [[], [], [], [], [], [], [], [], [], [], [], [], [], [], [], [], [], [], [], [], [], [], [], [], [], [], [], [], []] [[], [], [], [], [], [], [], [], [], [], [], [], [], [], [], [], [], [], [], [], [], [], [], [], [], [], [], [], []] [[], [], [], [], [], [], [], [], [], [], [], [], [], [], [], [], [], [], [], [], [], [], [], [], [], [], [], [], []] [[], [], [], [], [], [], [], [], [], [], [], [], [], [], [], [], [], [], [], [], [], [], [], [], [], [], [], [], []] (fun _ => []) (fun i => ([fun f v s => v = (.bool r7511.2 : Value) ∧ s = [], fun f v s => v = (.bool (!r7511.2) : Value) ∧ s = [], fun f v s => v = (.bool false : Value) ∧ s = [], fun f v s => v = (.bool r7520.2 : Value) ∧ s = [], fun f v s => v = (.bool (!r7520.2) : Value) ∧ s = [], fun f v s => v = (.bool (!r7520.2) : Value) ∧ s = [], fun f v s => v = (.bool true : Value) ∧ s = [], fun f v s => v = (undef : Value) ∧ s = [], fun f v s => v = (undef : Value) ∧ s = [], fun f v s => v = (undef : Value) ∧ s = [], fun f v s => v = (undef : Value) ∧ s = [], fun f v s => v = (undef : Value) ∧ s = [], fun f v s => v = (undef : Value) ∧ s = [], fun f v s => v = (undef : Value) ∧ s = [], fun f v s => v = (undef : Value) ∧ s = [], fun f v s => v = (undef : Value) ∧ s = [], fun f v s => v = (undef : Value) ∧ s = [], fun f v s => v = (.bool true : Value) ∧ s = [], fun f v s => v = (.bool true : Value) ∧ s = [], fun f v s => v = (undef : Value) ∧ s = [], fun f v s => v = (undef : Value) ∧ s = [], fun f v s => v = (undef : Value) ∧ s = [], fun f v s => v = (undef : Value) ∧ s = [], fun f v s => v = (undef : Value) ∧ s = [], fun f v s => v = (undef : Value) ∧ s = [], fun f v s => v = (undef : Value) ∧ s = [], fun f v s => v = (undef : Value) ∧ s = [], fun f v s => v = (undef : Value) ∧ s = [], fun f v s => v = (undef : Value) ∧ s = []] : List ((Nat → Value) → Value → Seg → Prop)).getD i (fun _ _ _ => False)) (fun j f v => ∃ s, (fun i => ([fun f v s => v = (.bool r7511.2 : Value) ∧ s = [], fun f v s => v = (.bool (!r7511.2) : Value) ∧ s = [], fun f v s => v = (.bool false : Value) ∧ s = [], fun f v s => v = (.bool r7520.2 : Value) ∧ s = [], fun f v s => v = (.bool (!r7520.2) : Value) ∧ s = [], fun f v s => v = (.bool (!r7520.2) : Value) ∧ s = [], fun f v s => v = (.bool true : Value) ∧ s = [], fun f v s => v = (undef : Value) ∧ s = [], fun f v s => v = (undef : Value) ∧ s = [], fun f v s => v = (undef : Value) ∧ s = [], fun f v s => v = (undef : Value) ∧ s = [], fun f v s => v = (undef : Value) ∧ s = [], fun f v s => v = (undef : Value) ∧ s = [], fun f v s => v = (undef : Value) ∧ s = [], fun f v s => v = (undef : Value) ∧ s = [], fun f v s => v = (undef : Value) ∧ s = [], fun f v s => v = (undef : Value) ∧ s = [], fun f v s => v = (.bool true : Value) ∧ s = [], fun f v s => v = (.bool true : Value) ∧ s = [], fun f v s => v = (undef : Value) ∧ s = [], fun f v s => v = (undef : Value) ∧ s = [], fun f v s => v = (undef : Value) ∧ s = [], fun f v s => v = (undef : Value) ∧ s = [], fun f v s => v = (undef : Value) ∧ s = [], fun f v s => v = (undef : Value) ∧ s = [], fun f v s => v = (undef : Value) ∧ s = [], fun f v s => v = (undef : Value) ∧ s = [], fun f v s => v = (undef : Value) ∧ s = [], fun f v s => v = (undef : Value) ∧ s = []] : List ((Nat → Value) → Value → Seg → Prop)).getD i (fun _ _ _ => False)) j f v s) [] [18, 23, 25, 28] [] (fun _ _ _ s h => ⟨s, h⟩) (by kernel_rfl) (by kernel_rfl) (M7528.preNil 29) (by kernel_rfl) (by kernel_rfl) (by kernel_rfl) (by kernel_rfl) (allOb_cons ?_ (allOb_cons ?_ (allOb_cons ?_ (allOb_cons ?_ (allOb_cons ?_ (allOb_cons ?_ (allOb_cons ?_ (allOb_cons ?_ (allOb_cons ?_ (allOb_cons ?_ (allOb_cons ?_ (allOb_cons ?_ (allOb_cons ?_ (allOb_cons ?_ (allOb_cons ?_ (allOb_cons ?_ (allOb_cons ?_ (allOb_cons ?_ (allOb_cons ?_ (allOb_cons ?_ (allOb_cons ?_ (allOb_cons ?_ (allOb_cons ?_ (allOb_cons ?_ (allOb_cons ?_ (allOb_cons ?_ (allOb_cons ?_ (allOb_cons ?_ (allOb_cons ?_ allOb_nil))))))))))))))))))))))))))))) ?_
                              · intro g8299 f8300
                                intro R w8301 M8302
                                refine W_run 1 [(232, .bool r7511.2)] w8301 (by kernel_rfl) ?_
                                exact W_nil (ob_end (.bool r7511.2) [] rfl (by kernel_rfl) ⟨by kernel_rfl, rfl⟩ M8302)
                              · intro g8299 f8300
                                intro v0_ hb0_
                                obtain ⟨rfl, _⟩ := hb0_
                                intro R w8305 M8306
                                refine W_run 1 [(233, .bool (!r7511.2))] w8305 (by kernel_rfl) ?_
                                exact W_nil (ob_end (.bool (!r7511.2)) [] rfl (by kernel_rfl) ⟨by kernel_rfl, rfl⟩ M8306)
                              · intro g8299 f8300
                                intro v1_ hb1_
                                obtain ⟨rfl, _⟩ := hb1_
                                intro R w8309 M8310
                                refine W_run 1 [(234, .bool (!r7511.2))] w8309 (by kernel_rfl) ?_
                                refine W_conv 234 (.bool (!r7511.2)) (.bool false) (by kernel_rfl) (by rw [hc8174]) ?_
                                exact W_nil (ob_end (.bool false) [] rfl (by kernel_rfl) ⟨by kernel_rfl, rfl⟩ M8310)
                              · intro g8299 f8300
                                intro v2_ hb2_
                                obtain ⟨rfl, _⟩ := hb2_
                                intro R w8313 M8314
                                refine W_run 1 [(235, .bool r7520.2)] w8313 (by kernel_rfl) ?_
                                exact W_nil (ob_end (.bool r7520.2) [] rfl (by kernel_rfl) ⟨by kernel_rfl, rfl⟩ M8314)
                              · intro g8299 f8300
                                intro v2_ hb2_
                                obtain ⟨rfl, _⟩ := hb2_
                                intro v3_ hb3_
                                obtain ⟨rfl, _⟩ := hb3_
                                intro R w8317 M8318
                                refine W_run 1 [(236, .bool (!r7520.2))] w8317 (by kernel_rfl) ?_
                                exact W_nil (ob_end (.bool (!r7520.2)) [] rfl (by kernel_rfl) ⟨by kernel_rfl, rfl⟩ M8318)
                              · intro g8299 f8300
                                intro v2_ hb2_
                                obtain ⟨rfl, _⟩ := hb2_
                                intro v4_ hb4_
                                obtain ⟨rfl, _⟩ := hb4_
                                intro R w8321 M8322
                                refine W_run 1 [(237, .bool (!r7520.2))] w8321 (by kernel_rfl) ?_
                                exact W_nil (ob_end (.bool (!r7520.2)) [] rfl (by kernel_rfl) ⟨by kernel_rfl, rfl⟩ M8322)
                              · intro g8299 f8300
                                intro v5_ hb5_
                                obtain ⟨rfl, _⟩ := hb5_
                                intro R w8325 M8326
                                refine W_run 1 [(238, .bool (!r7520.2))] w8325 (by kernel_rfl) ?_
                                refine W_conv 238 (.bool (!r7520.2)) (.bool true) (by kernel_rfl) (by rw [hc8298]) ?_
                                exact W_nil (ob_end (.bool true) [] rfl (by kernel_rfl) ⟨by kernel_rfl, rfl⟩ M8326)
                              · intro g8299 f8300
                                intro v6_ hb6_
                                obtain ⟨rfl, _⟩ := hb6_
                                intro R w8329 M8330
                                refine W_run 1 [(239, undef)] w8329 (by kernel_rfl) ?_
                                exact W_nil (ob_end (undef) [] rfl (by kernel_rfl) ⟨by kernel_rfl, rfl⟩ M8330)
                              · intro g8299 f8300
                                intro v6_ hb6_
                                obtain ⟨rfl, _⟩ := hb6_
                                intro R w8333 M8334
                                refine W_run 1 [(240, undef)] w8333 (by kernel_rfl) ?_
                                exact W_nil (ob_end (undef) [] rfl (by kernel_rfl) ⟨by kernel_rfl, rfl⟩ M8334)
                              · intro g8299 f8300
                                intro v6_ hb6_
                                obtain ⟨rfl, _⟩ := hb6_
                                intro R w8337 M8338
                                refine W_run 1 [(241, undef)] w8337 (by kernel_rfl) ?_
                                exact W_nil (ob_end (undef) [] rfl (by kernel_rfl) ⟨by kernel_rfl, rfl⟩ M8338)
                              · intro g8299 f8300
                                intro v6_ hb6_
                                obtain ⟨rfl, _⟩ := hb6_
                                intro R w8341 M8342
                                refine W_run 1 [(242, undef)] w8341 (by kernel_rfl) ?_
                                exact W_nil (ob_end (undef) [] rfl (by kernel_rfl) ⟨by kernel_rfl, rfl⟩ M8342)
                              · intro g8299 f8300
                                intro v6_ hb6_
                                obtain ⟨rfl, _⟩ := hb6_
                                intro R w8345 M8346
                                refine W_run 1 [(243, undef)] w8345 (by kernel_rfl) ?_
                                exact W_nil (ob_end (undef) [] rfl (by kernel_rfl) ⟨by kernel_rfl, rfl⟩ M8346)
                              · intro g8299 f8300
                                intro v6_ hb6_
                                obtain ⟨rfl, _⟩ := hb6_
                                intro R w8349 M8350
                                refine W_run 1 [(244, undef)] w8349 (by kernel_rfl) ?_
                                exact W_nil (ob_end (undef) [] rfl (by kernel_rfl) ⟨by kernel_rfl, rfl⟩ M8350)
                              · intro g8299 f8300
                                intro v6_ hb6_
                                obtain ⟨rfl, _⟩ := hb6_
                                intro R w8353 M8354
                                refine W_run 1 [(245, undef)] w8353 (by kernel_rfl) ?_
                                exact W_nil (ob_end (undef) [] rfl (by kernel_rfl) ⟨by kernel_rfl, rfl⟩ M8354)
                              · intro g8299 f8300
                                intro v6_ hb6_
                                obtain ⟨rfl, _⟩ := hb6_
                                intro R w8357 M8358
                                refine W_run 1 [(246, undef)] w8357 (by kernel_rfl) ?_
                                exact W_nil (ob_end (undef) [] rfl (by kernel_rfl) ⟨by kernel_rfl, rfl⟩ M8358)
                              · intro g8299 f8300
                                intro v6_ hb6_
                                obtain ⟨rfl, _⟩ := hb6_
                                intro R w8361 M8362
                                refine W_run 1 [(247, undef)] w8361 (by kernel_rfl) ?_
                                exact W_nil (ob_end (undef) [] rfl (by kernel_rfl) ⟨by kernel_rfl, rfl⟩ M8362)
                              · intro g8299 f8300
                                intro v6_ hb6_
                                obtain ⟨rfl, _⟩ := hb6_
                                intro R w8365 M8366
                                refine W_run 1 [(248, undef)] w8365 (by kernel_rfl) ?_
                                exact W_nil (ob_end (undef) [] rfl (by kernel_rfl) ⟨by kernel_rfl, rfl⟩ M8366)
                              · intro g8299 f8300
                                intro v6_ hb6_
                                obtain ⟨rfl, _⟩ := hb6_
                                intro v16_ hb16_
                                obtain ⟨rfl, _⟩ := hb16_
                                intro R w8369 M8370
                                refine W_run 1 [(249, .bool true)] w8369 (by kernel_rfl) ?_
                                exact W_nil (ob_end (.bool true) [] rfl (by kernel_rfl) ⟨by kernel_rfl, rfl⟩ M8370)
                              · intro g8299 f8300
                                intro v17_ hb17_
                                obtain ⟨rfl, _⟩ := hb17_
                                intro R w8373 M8374
                                refine W_run 1 [(250, .bool true)] w8373 (by kernel_rfl) ?_
                                exact W_nil (ob_end (.bool true) [] rfl (by kernel_rfl) ⟨by kernel_rfl, rfl⟩ M8374)
                              · intro g8299 f8300
                                intro v18_ hb18_
                                obtain ⟨rfl, _⟩ := hb18_
                                intro R w8377 M8378
                                refine W_run 1 [(251, undef)] w8377 (by kernel_rfl) ?_
                                exact W_nil (ob_end (undef) [] rfl (by kernel_rfl) ⟨by kernel_rfl, rfl⟩ M8378)
                              · intro g8299 f8300
                                intro v18_ hb18_
                                obtain ⟨rfl, _⟩ := hb18_
                                intro R w8381 M8382
                                refine W_run 1 [(252, undef)] w8381 (by kernel_rfl) ?_
                                exact W_nil (ob_end (undef) [] rfl (by kernel_rfl) ⟨by kernel_rfl, rfl⟩ M8382)
                              · intro g8299 f8300
                                intro v18_ hb18_
                                obtain ⟨rfl, _⟩ := hb18_
                                intro R w8385 M8386
                                refine W_run 1 [(253, undef)] w8385 (by kernel_rfl) ?_
                                exact W_nil (ob_end (undef) [] rfl (by kernel_rfl) ⟨by kernel_rfl, rfl⟩ M8386)
                              · intro g8299 f8300
                                intro v18_ hb18_
                                obtain ⟨rfl, _⟩ := hb18_
                                intro R w8389 M8390
                                refine W_run 1 [(254, undef)] w8389 (by kernel_rfl) ?_
                                exact W_nil (ob_end (undef) [] rfl (by kernel_rfl) ⟨by kernel_rfl, rfl⟩ M8390)
                              · intro g8299 f8300
                                intro v18_ hb18_
                                obtain ⟨rfl, _⟩ := hb18_
                                intro R w8393 M8394
                                refine W_run 1 [(255, undef)] w8393 (by kernel_rfl) ?_
                                exact W_nil (ob_end (undef) [] rfl (by kernel_rfl) ⟨by kernel_rfl, rfl⟩ M8394)
                              · intro g8299 f8300
                                intro v23_ hb23_
                                obtain ⟨rfl, _⟩ := hb23_
                                intro R w8397 M8398
                                refine W_run 1 [(256, undef)] w8397 (by kernel_rfl) ?_
                                exact W_nil (ob_end (undef) [] rfl (by kernel_rfl) ⟨by kernel_rfl, rfl⟩ M8398)
                              · intro g8299 f8300
                                intro v23_ hb23_
                                obtain ⟨rfl, _⟩ := hb23_
                                intro R w8401 M8402
                                refine W_run 1 [(257, undef)] w8401 (by kernel_rfl) ?_
                                exact W_nil (ob_end (undef) [] rfl (by kernel_rfl) ⟨by kernel_rfl, rfl⟩ M8402)
                              · intro g8299 f8300
                                intro v23_ hb23_
                                obtain ⟨rfl, _⟩ := hb23_
                                intro R w8405 M8406
                                refine W_run 1 [(258, undef)] w8405 (by kernel_rfl) ?_
                                exact W_nil (ob_end (undef) [] rfl (by kernel_rfl) ⟨by kernel_rfl, rfl⟩ M8406)
                              · intro g8299 f8300
                                intro v23_ hb23_
                                obtain ⟨rfl, _⟩ := hb23_
                                intro R w8409 M8410
                                refine W_run 1 [(259, undef)] w8409 (by kernel_rfl) ?_
                                exact W_nil (ob_end (undef) [] rfl (by kernel_rfl) ⟨by kernel_rfl, rfl⟩ M8410)
                              · intro g8299 f8300
                                intro v23_ hb23_
                                obtain ⟨rfl, _⟩ := hb23_
                                intro R w8413 M8414
                                refine W_run 1 [(260, undef)] w8413 (by kernel_rfl) ?_
                                exact W_nil (ob_end (undef) [] rfl (by kernel_rfl) ⟨by kernel_rfl, rfl⟩ M8414)
                              · intro g8299 f8300
                                intro v18_ hb18_
                                obtain ⟨rfl, _⟩ := hb18_
                                intro v23_ hb23_
                                obtain ⟨rfl, _⟩ := hb23_
                                intro v25_ hb25_
                                obtain ⟨rfl, _⟩ := hb25_
                                intro v28_ hb28_
                                obtain ⟨rfl, _⟩ := hb28_
                                intro w8417 M8418
                                have M8419 : Mem [] w w8417 [sg5767, sg5772, [(b5779, .cells ⟨[.slice p5765 r5763.1.Items.length c5766, .int .i64 r5763.1.Head, .int .i64 r5763.1.Tail]⟩ 27 (0, 0))], sg5788, [(b5795, .cells ⟨[.slice p5786 r5784.1.Items.length c5787, .int .i64 r5784.1.Head, .int .i64 r5784.1.Tail]⟩ 27 (0, 0))], sg7515, sg7524] := M8418
                                refine W_run 3 [(0, .slice p4356 x4354.length c4357), (263, .bool true)] w8417 (by kernel_rfl) ?_
                                refine W_nil ?_
                                obtain rfl := Option.some.inj hm
                                exact N_meet fun a ha => ⟨M8419.pick [] (by kernel_rfl), ha.sub (by kernel_rfl)⟩
                            · obtain ⟨ap8427, hap8427, hm⟩ := gx_bind hm
                              obtain ⟨ys8433, hys8433, hm⟩ := gx_bind hm
                              obtain ⟨ap8435, hap8435, hm⟩ := gx_bind hm
                              obtain ⟨r8441, hr8441, hm⟩ := gx_bind hm
                              rcases gx_bif hm with ⟨hc8442, hm⟩ | ⟨hc8442, hm⟩
                              · refine G_sub [(0, .slice p4356 x4354.length c4357), (24, .pointer (some ⟨b5779, 0, none⟩)), (25, .slice p5770 r5763.2.length c5771), (27, .int .i64 r5784.2.1), (32, .slice p7513 r7511.1.length c7514), (33, .bool r7511.2), (34, .slice p7522 r7520.1.length c7523), (35, .bool r7520.2)] (by kernel_rfl) ?_
                                refine G_dagL 29 [[], [0], [1], [2], [2, 3], [2, 4], [5], [6], [6], [6], [6, 8, 9], [6], [6], [6, 11, 12], [6, 10, 13], [6, 7, 14], [6, 15], [6, 16], [17], [18], [18], [18], [18], [18], [23], [23], [23], [23], [23]] [[], [], [], [], [], [], [], [], [], [], [8], [], [], [], [10], [], [], [], [], [], [], [], [], [], [], [], [], [], []] [[], [], [], [], [], [], [], [], [], [], [], [], [], [], [], [14], [], [], [], [], [], [], [], [], [], [], [], [], []] [[], [], [], [], [], [], [], [], [], [], [], [], [], [], [], [], [], [], [], [], [], [], [], [], [], [], [], [], []] [[], [], [], [], [], [], [], [], [], [], [], [], [], [], [], [], [], [], [], [], [], [], [], [], [], [], [], [], []] [[], [], [], [], [], [], [], [], [], [], [], [], [], [], [], [], [], [], [], [], [], [], [], [], [], [], [], [], []] (fun _ => []) (fun i => ([fun f v s => v = (.bool r7511.2 : Value) ∧ s = [], fun f v s => v = (.bool (!r7511.2) : Value) ∧ s = [], fun f v s => v = (.bool false : Value) ∧ s = [], fun f v s => v = (.bool r7520.2 : Value) ∧ s = [], fun f v s => v = (.bool (!r7520.2) : Value) ∧ s = [], fun f v s => v = (.bool (!r7520.2) : Value) ∧ s = [], fun f v s => v = (.bool false : Value) ∧ s = [], fun f v s => v = (.slice p7522 r7520.1.length c7523 : Value) ∧ s = [], fun f v s => ∃ (p8423 : Option Addr) (c8424 : Nat), v = (.slice p8423 ([] : List Int).length c8424 : Value) ∧ ownS encI ([] : List Int) p8423 c8424 s, fun f v s => v = (.slice p7513 r7511.1.length c7514 : Value) ∧ s = [], fun f v s => ∃ (p8429 : Option Addr) (c8430 : Nat), v = (.slice p8429 ap8427.length c8430 : Value) ∧ ownS encI ap8427 p8429 c8430 s, fun f v s => v = (.slice p5770 r5763.2.length c5771 : Value) ∧ s = [], fun f v s => v = (.int .i64 r5784.2.1 : Value) ∧ s = [], fun f v s => v = (.slice (subP p5770 (0 : Int).toNat c5771 1) ys8433.length (c5771 - (0 : Int).toNat) : Value) ∧ s = [], fun f v s => ∃ (p8437 : Option Addr) (c8438 : Nat), v = (.slice p8437 ap8435.length c8438 : Value) ∧ ownS encI ap8435 p8437 c8438 s, fun f v s => v = (.bool r8441 : Value) ∧ s = [], fun f v s => v = (.bool (!r8441) : Value) ∧ s = [], fun f v s => v = (.bool (!r8441) : Value) ∧ s = [], fun f v s => v = (.bool true : Value) ∧ s = [], fun f v s => v = (undef : Value) ∧ s = [], fun f v s => v = (undef : Value) ∧ s = [], fun f v s => v = (undef : Value) ∧ s = [], fun f v s => v = (undef : Value) ∧ s = [], fun f v s => v = (undef : Value) ∧ s = [], fun f v s => v = (undef : Value) ∧ s = [], fun f v s => v = (undef : Value) ∧ s = [], fun f v s => v = (undef : Value) ∧ s = [], fun f v s => v = (undef : Value) ∧ s = [], fun f v s => v = (undef : Value) ∧ s = []] : List ((Nat → Value) → Value → Seg → Prop)).getD i (fun _ _ _ => False)) (fun j f v => ∃ s, (fun i => ([fun f v s => v = (.bool r7511.2 : Value) ∧ s = [], fun f v s => v = (.bool (!r7511.2) : Value) ∧ s = [], fun f v s => v = (.bool false : Value) ∧ s = [], fun f v s => v = (.bool r7520.2 : Value) ∧ s = [], fun f v s => v = (.bool (!r7520.2) : Value) ∧ s = [], fun f v s => v = (.bool (!r7520.2) : Value) ∧ s = [], fun f v s => v = (.bool false : Value) ∧ s = [], fun f v s => v = (.slice p7522 r7520.1.length c7523 : Value) ∧ s = [], fun f v s => ∃ (p8423 : Option Addr) (c8424 : Nat), v = (.slice p8423 ([] : List Int).length c8424 : Value) ∧ ownS encI ([] : List Int) p8423 c8424 s, fun f v s => v = (.slice p7513 r7511.1.length c7514 : Value) ∧ s = [], fun f v s => ∃ (p8429 : Option Addr) (c8430 : Nat), v = (.slice p8429 ap8427.length c8430 : Value) ∧ ownS encI ap8427 p8429 c8430 s, fun f v s => v = (.slice p5770 r5763.2.length c5771 : Value) ∧ s = [], fun f v s => v = (.int .i64 r5784.2.1 : Value) ∧ s = [], fun f v s => v = (.slice (subP p5770 (0 : Int).toNat c5771 1) ys8433.length (c5771 - (0 : Int).toNat) : Value) ∧ s = [], fun f v s => ∃ (p8437 : Option Addr) (c8438 : Nat), v = (.slice p8437 ap8435.length c8438 : Value) ∧ ownS encI ap8435 p8437 c8438 s, fun f v s => v = (.bool r8441 : Value) ∧ s = [], fun f v s => v = (.bool (!r8441) : Value) ∧ s = [], fun f v s => v = (.bool (!r8441) : Value) ∧ s = [], fun f v s => v = (.bool true : Value) ∧ s = [], fun f v s => v = (undef : Value) ∧ s = [], fun f v s => v = (undef : Value) ∧ s = [], fun f v s => v = (undef : Value) ∧ s = [], fun f v s => v = (undef : Value) ∧ s = [], fun f v s => v = (undef : Value) ∧ s = [], fun f v s => v = (undef : Value) ∧ s = [], fun f v s => v = (undef : Value) ∧ s = [], fun f v s => v = (undef : Value) ∧ s = [], fun f v s => v = (undef : Value) ∧ s = [], fun f v s => v = (undef : Value) ∧ s = []] : List ((Nat → Value) → Value → Seg → Prop)).getD i (fun _ _ _ => False)) j f v s) [] [14, 18, 23, 25, 28] [14] (fun _ _ _ s h => ⟨s, h⟩) (by kernel_rfl) (by kernel_rfl) (M7528.preNil 29) (by kernel_rfl) (by kernel_rfl) (by kernel_rfl) (by kernel_rfl) (allOb_cons ?_ (allOb_cons ?_ (allOb_cons ?_ (allOb_cons ?_ (allOb_cons ?_ (allOb_cons ?_ (allOb_cons ?_ (allOb_cons ?_ (allOb_cons ?_ (allOb_cons ?_ (allOb_cons ?_ (allOb_cons ?_ (allOb_cons ?_ (allOb_cons ?_ (allOb_cons ?_ (allOb_cons ?_ (allOb_cons ?_ (allOb_cons ?_ (allOb_cons ?_ (allOb_cons ?_ (allOb_cons ?_ (allOb_cons ?_ (allOb_cons ?_ (allOb_cons ?_ (allOb_cons ?_ (allOb_cons ?_ (allOb_cons ?_ (allOb_cons ?_ (allOb_cons ?_ allOb_nil))))))))))))))))))))))))))))) ?_
                                · intro g8443 f8444
                                  intro R w8445 M8446
                                  refine W_run 1 [(232, .bool r7511.2)] w8445 (by kernel_rfl) ?_
                                  exact W_nil (ob_end (.bool r7511.2) [] rfl (by kernel_rfl) ⟨by kernel_rfl, rfl⟩ M8446)
                                · intro g8443 f8444
                                  intro v0_ hb0_
                                  obtain ⟨rfl, _⟩ := hb0_
                                  intro R w8449 M8450
                                  refine W_run 1 [(233, .bool (!r7511.2))] w8449 (by kernel_rfl) ?_
                                  exact W_nil (ob_end (.bool (!r7511.2)) [] rfl (by kernel_rfl) ⟨by kernel_rfl, rfl⟩ M8450)
                                · intro g8443 f8444
                                  intro v1_ hb1_
                                  obtain ⟨rfl, _⟩ := hb1_
                                  intro R w8453 M8454
                                  refine W_run 1 [(234, .bool (!r7511.2))] w8453 (by kernel_rfl) ?_
                                  refine W_conv 234 (.bool (!r7511.2)) (.bool false) (by kernel_rfl) (by rw [hc8174]) ?_
                                  exact W_nil (ob_end (.bool false) [] rfl (by kernel_rfl) ⟨by kernel_rfl, rfl⟩ M8454)
                                · intro g8443 f8444
                                  intro v2_ hb2_
                                  obtain ⟨rfl, _⟩ := hb2_
                                  intro R w8457 M8458
                                  refine W_run 1 [(235, .bool r7520.2)] w8457 (by kernel_rfl) ?_
                                  exact W_nil (ob_end (.bool r7520.2) [] rfl (by kernel_rfl) ⟨by kernel_rfl, rfl⟩ M8458)
                                · intro g8443 f8444
                                  intro v2_ hb2_
                                  obtain ⟨rfl, _⟩ := hb2_
                                  intro v3_ hb3_
                                  obtain ⟨rfl, _⟩ := hb3_
                                  intro R w8461 M8462
                                  refine W_run 1 [(236, .bool (!r7520.2))] w8461 (by kernel_rfl) ?_
                                  exact W_nil (ob_end (.bool (!r7520.2)) [] rfl (by kernel_rfl) ⟨by kernel_rfl, rfl⟩ M8462)
                                · intro g8443 f8444
                                  intro v2_ hb2_
                                  obtain ⟨rfl, _⟩ := hb2_
                                  intro v4_ hb4_
                                  obtain ⟨rfl, _⟩ := hb4_
                                  intro R w8465 M8466
                                  refine W_run 1 [(237, .bool (!r7520.2))] w8465 (by kernel_rfl) ?_
                                  exact W_nil (ob_end (.bool (!r7520.2)) [] rfl (by kernel_rfl) ⟨by kernel_rfl, rfl⟩ M8466)
                                · intro g8443 f8444
                                  intro v5_ hb5_
                                  obtain ⟨rfl, _⟩ := hb5_
                                  intro R w8469 M8470
                                  refine W_run 1 [(238, .bool (!r7520.2))] w8469 (by kernel_rfl) ?_
                                  refine W_conv 238 (.bool (!r7520.2)) (.bool false) (by kernel_rfl) (by rw [hc8298]) ?_
                                  exact W_nil (ob_end (.bool false) [] rfl (by kernel_rfl) ⟨by kernel_rfl, rfl⟩ M8470)
                                · intro g8443 f8444
                                  intro v6_ hb6_
                                  obtain ⟨rfl, _⟩ := hb6_
                                  intro R w8473 M8474
                                  refine W_run 1 [(239, .slice p7522 r7520.1.length c7523)] w8473 (by kernel_rfl) ?_
                                  exact W_nil (ob_end (.slice p7522 r7520.1.length c7523) [] rfl (by kernel_rfl) ⟨by kernel_rfl, rfl⟩ M8474)
                                · intro g8443 f8444
                                  intro v6_ hb6_
                                  obtain ⟨rfl, _⟩ := hb6_
                                  intro R w8477 M8478
                                  refine W_lit (E := encI) ([] : List Int) 0 [] 3 M8478 (by kernel_rfl) (by kernel_rfl) (by kernel_rfl) (by kernel_rfl) (by kernel_rfl) ?_
                                  intro p8423 c8424 sg8425 w8479 ho8426 M8480
                                  exact W_nil (ob_end (.slice p8423 ([] : List Int).length c8424) sg8425 rfl (by kernel_rfl) ⟨p8423, c8424, rfl, ho8426⟩ (Mem.mid M8480))
                                · intro g8443 f8444
                                  intro v6_ hb6_
                                  obtain ⟨rfl, _⟩ := hb6_
                                  intro R w8481 M8482
                                  refine W_run 1 [(241, .slice p7513 r7511.1.length c7514)] w8481 (by kernel_rfl) ?_
                                  exact W_nil (ob_end (.slice p7513 r7511.1.length c7514) [] rfl (by kernel_rfl) ⟨by kernel_rfl, rfl⟩ M8482)
                                · intro g8443 f8444
                                  intro v6_ hb6_
                                  obtain ⟨rfl, _⟩ := hb6_
                                  intro v8_ hb8_
                                  obtain ⟨p8423, c8424, rfl, ho8426⟩ := hb8_
                                  intro v9_ hb9_
                                  obtain ⟨rfl, _⟩ := hb9_
                                  intro R w8485 M8486
                                  refine W_append (E := encI) _ _ _ 8 [.int .i64 0] 8 c7514 M8486 ho8426 (by kernel_rfl) (by kernel_rfl) (by kernel_rfl) rfl (by kernel_rfl) (by kernel_rfl) (by kernel_rfl) (by kernel_rfl) (by kernel_rfl) (by kernel_rfl) (ho7516.rd M8486 5 (by kernel_rfl)) hap8427 ?_
                                  intro p8429 c8430 sg8431 w8487 ho8432 M8488
                                  exact W_nil (ob_end (.slice p8429 ap8427.length c8430) sg8431 rfl (by kernel_rfl) ⟨p8429, c8430, rfl, ho8432⟩ (Mem.takeOver M8488))
                                · intro g8443 f8444
                                  intro v6_ hb6_
                                  obtain ⟨rfl, _⟩ := hb6_
                                  intro R w8489 M8490
                                  refine W_run 1 [(243, .slice p5770 r5763.2.length c5771)] w8489 (by kernel_rfl) ?_
                                  exact W_nil (ob_end (.slice p5770 r5763.2.length c5771) [] rfl (by kernel_rfl) ⟨by kernel_rfl, rfl⟩ M8490)
                                · intro g8443 f8444
                                  intro v6_ hb6_
                                  obtain ⟨rfl, _⟩ := hb6_
                                  intro R w8493 M8494
                                  refine W_run 1 [(244, .int .i64 r5784.2.1)] w8493 (by kernel_rfl) ?_
                                  exact W_nil (ob_end (.int .i64 r5784.2.1) [] rfl (by kernel_rfl) ⟨by kernel_rfl, rfl⟩ M8494)
                                · intro g8443 f8444
                                  intro v6_ hb6_
                                  obtain ⟨rfl, _⟩ := hb6_
                                  intro v11_ hb11_
                                  obtain ⟨rfl, _⟩ := hb11_
                                  intro v12_ hb12_
                                  obtain ⟨rfl, _⟩ := hb12_
                                  intro R w8497 M8498
                                  refine W_val (.slice (subP p5770 (0 : Int).toNat c5771 1) ys8433.length (c5771 - (0 : Int).toNat)) w8497 (by kernel_rfl) (E_slice (E := encI) _ _ _ _ r5763.2.length 0 r5784.2.1 rfl (by kernel_rfl) (Or.inl ⟨rfl, rfl⟩) (Or.inr ⟨_, rfl, by kernel_rfl⟩) (by kernel_rfl) (ho5773.rd M8498 1 (by kernel_rfl)) rfl hys8433) ?_
                                  exact W_nil (ob_end (.slice (subP p5770 (0 : Int).toNat c5771 1) ys8433.length (c5771 - (0 : Int).toNat)) [] rfl (by kernel_rfl) ⟨by kernel_rfl, rfl⟩ M8498)
                                · intro g8443 f8444
                                  intro v6_ hb6_
                                  obtain ⟨rfl, _⟩ := hb6_
                                  intro v10_ hb10_
                                  obtain ⟨p8429, c8430, rfl, ho8432⟩ := hb10_
                                  intro v13_ hb13_
                                  obtain ⟨rfl, _⟩ := hb13_
                                  intro R w8501 M8502
                                  refine W_append (E := encI) _ _ _ 8 [.int .i64 0] 8 (c5771 - (0 : Int).toNat) M8502 ho8432 (by kernel_rfl) (by kernel_rfl) (by kernel_rfl) rfl (by kernel_rfl) (by kernel_rfl) (by kernel_rfl) (by kernel_rfl) (by kernel_rfl) (by kernel_rfl) ((ho5773.rd M8502 1 (by kernel_rfl)).sliceM hys8433) hap8435 ?_
                                  intro p8437 c8438 sg8439 w8503 ho8440 M8504
                                  exact W_nil (ob_end (.slice p8437 ap8435.length c8438) sg8439 rfl (by kernel_rfl) ⟨p8437, c8438, rfl, ho8440⟩ (Mem.takeOver M8504))
                                · intro g8443 f8444
                                  intro v6_ hb6_
                                  obtain ⟨rfl, _⟩ := hb6_
                                  intro v7_ hb7_
                                  obtain ⟨rfl, _⟩ := hb7_
                                  intro v14_ hb14_
                                  obtain ⟨p8437, c8438, rfl, ho8440⟩ := hb14_
                                  intro R w8505 M8506
                                  refine W_call 45 #[.slice p7522 r7520.1.length c7523, .slice p8437 ap8435.length c8438] (by kernel_rfl) (by kernel_rfl) ?_
                                  refine (c_l_vInts w8505 r7520.1 p7522 c7523 (ho7525.rd M8506 6 (by kernel_rfl)) ap8435 p8437 c8438 (ho8440.rd M8506 8 (by kernel_rfl)) hr8441).mono ?_
                                  rintro e_ w8507 ⟨rfl, K8509⟩
                                  refine ⟨_, rfl, ?_⟩
                                  exact W_nil (ob_end (.bool r8441) [] rfl (by kernel_rfl) ⟨rfl, rfl⟩ (M8506.call0 K8509))
                                · intro g8443 f8444
                                  intro v6_ hb6_
                                  obtain ⟨rfl, _⟩ := hb6_
                                  intro v15_ hb15_
                                  obtain ⟨rfl, _⟩ := hb15_
                                  intro R w8510 M8511
                                  refine W_run 1 [(248, .bool (!r8441))] w8510 (by kernel_rfl) ?_
                                  exact W_nil (ob_end (.bool (!r8441)) [] rfl (by kernel_rfl) ⟨by kernel_rfl, rfl⟩ M8511)
                                · intro g8443 f8444
                                  intro v6_ hb6_
                                  obtain ⟨rfl, _⟩ := hb6_
                                  intro v16_ hb16_
                                  obtain ⟨rfl, _⟩ := hb16_
                                  intro R w8514 M8515
                                  refine W_run 1 [(249, .bool (!r8441))] w8514 (by kernel_rfl) ?_
                                  exact W_nil (ob_end (.bool (!r8441)) [] rfl (by kernel_rfl) ⟨by kernel_rfl, rfl⟩ M8515)
                                · intro g8443 f8444
                                  intro v17_ hb17_
                                  obtain ⟨rfl, _⟩ := hb17_
                                  intro R w8518 M8519
                                  refine W_run 1 [(250, .bool (!r8441))] w8518 (by kernel_rfl) ?_
                                  refine W_conv 250 (.bool (!r8441)) (.bool true) (by kernel_rfl) (by rw [hc8442]) ?_
                                  exact W_nil (ob_end (.bool true) [] rfl (by kernel_rfl) ⟨by kernel_rfl, rfl⟩ M8519)
                                · intro g8443 f8444
                                  intro v18_ hb18_
                                  obtain ⟨rfl, _⟩ := hb18_
                                  intro R w8522 M8523
                                  refine W_run 1 [(251, undef)] w8522 (by kernel_rfl) ?_
                                  exact W_nil (ob_end (undef) [] rfl (by kernel_rfl) ⟨by kernel_rfl, rfl⟩ M8523)
                                · intro g8443 f8444
                                  intro v18_ hb18_
                                  obtain ⟨rfl, _⟩ := hb18_
                                  intro R w8526 M8527
                                  refine W_run 1 [(252, undef)] w8526 (by kernel_rfl) ?_
                                  exact W_nil (ob_end (undef) [] rfl (by kernel_rfl) ⟨by kernel_rfl, rfl⟩ M8527)
                                · intro g8443 f8444
                                  intro v18_ hb18_
                                  obtain ⟨rfl, _⟩ := hb18_
                                  intro R w8530 M8531
                                  refine W_run 1 [(253, undef)] w8530 (by kernel_rfl) ?_
                                  exact W_nil (ob_end (undef) [] rfl (by kernel_rfl) ⟨by kernel_rfl, rfl⟩ M8531)
                                · intro g8443 f8444
                                  intro v18_ hb18_
                                  obtain ⟨rfl, _⟩ := hb18_
                                  intro R w8534 M8535
                                  refine W_run 1 [(254, undef)] w8534 (by kernel_rfl) ?_
                                  exact W_nil (ob_end (undef) [] rfl (by kernel_rfl) ⟨by kernel_rfl, rfl⟩ M8535)
                                · intro g8443 f8444
                                  intro v18_ hb18_
                                  obtain ⟨rfl, _⟩ := hb18_
                                  intro R w8538 M8539
                                  refine W_run 1 [(255, undef)] w8538 (by kernel_rfl) ?_
                                  exact W_nil (ob_end (undef) [] rfl (by kernel_rfl) ⟨by kernel_rfl, rfl⟩ M8539)
                                · intro g8443 f8444
                                  intro v23_ hb23_
                                  obtain ⟨rfl, _⟩ := hb23_
                                  intro R w8542 M8543
                                  refine W_run 1 [(256, undef)] w8542 (by kernel_rfl) ?_
                                  exact W_nil (ob_end (undef) [] rfl (by kernel_rfl) ⟨by kernel_rfl, rfl⟩ M8543)
                                · intro g8443 f8444
                                  intro v23_ hb23_
                                  obtain ⟨rfl, _⟩ := hb23_
                                  intro R w8546 M8547
                                  refine W_run 1 [(257, undef)] w8546 (by kernel_rfl) ?_
                                  exact W_nil (ob_end (undef) [] rfl (by kernel_rfl) ⟨by kernel_rfl, rfl⟩ M8547)
                                · intro g8443 f8444
                                  intro v23_ hb23_
                                  obtain ⟨rfl, _⟩ := hb23_
                                  intro R w8550 M8551
                                  refine W_run 1 [(258, undef)] w8550 (by kernel_rfl) ?_
                                  exact W_nil (ob_end (undef) [] rfl (by kernel_rfl) ⟨by kernel_rfl, rfl⟩ M8551)
                                · intro g8443 f8444
                                  intro v23_ hb23_
                                  obtain ⟨rfl, _⟩ := hb23_
                                  intro R w8554 M8555
                                  refine W_run 1 [(259, undef)] w8554 (by kernel_rfl) ?_
                                  exact W_nil (ob_end (undef) [] rfl (by kernel_rfl) ⟨by kernel_rfl, rfl⟩ M8555)
                                · intro g8443 f8444
                                  intro v23_ hb23_
                                  obtain ⟨rfl, _⟩ := hb23_
                                  intro R w8558 M8559
                                  refine W_run 1 [(260, undef)] w8558 (by kernel_rfl) ?_
                                  exact W_nil (ob_end (undef) [] rfl (by kernel_rfl) ⟨by kernel_rfl, rfl⟩ M8559)
                                · intro g8443 f8444
                                  intro v14_ hb14_
                                  obtain ⟨p8437, c8438, rfl, ho8440⟩ := hb14_
                                  intro v18_ hb18_
                                  obtain ⟨rfl, _⟩ := hb18_
                                  intro v23_ hb23_
                                  obtain ⟨rfl, _⟩ := hb23_
                                  intro v25_ hb25_
                                  obtain ⟨rfl, _⟩ := hb25_
                                  intro v28_ hb28_
                                  obtain ⟨rfl, _⟩ := hb28_
                                  intro w8562 M8563
                                  have M8564 : Mem [] w w8562 [sg5767, sg5772, [(b5779, .cells ⟨[.slice p5765 r5763.1.Items.length c5766, .int .i64 r5763.1.Head, .int .i64 r5763.1.Tail]⟩ 27 (0, 0))], sg5788, [(b5795, .cells ⟨[.slice p5786 r5784.1.Items.length c5787, .int .i64 r5784.1.Head, .int .i64 r5784.1.Tail]⟩ 27 (0, 0))], sg7515, sg7524, (g8443 14)] := M8563
                                  refine W_run 3 [(0, .slice p4356 x4354.length c4357), (263, .bool true)] w8562 (by kernel_rfl) ?_
                                  refine W_nil ?_
                                  obtain rfl := Option.some.inj hm
                                  exact N_meet fun a ha => ⟨M8564.pick [] (by kernel_rfl), ha.sub (by kernel_rfl)⟩
                              · rcases gx_bif hm with ⟨hc8567, hm⟩ | ⟨hc8567, hm⟩
                                · refine G_sub [(0, .slice p4356 x4354.length c4357), (24, .pointer (some ⟨b5779, 0, none⟩)), (25, .slice p5770 r5763.2.length c5771), (27, .int .i64 r5784.2.1), (32, .slice p7513 r7511.1.length c7514), (33, .bool r7511.2), (34, .slice p7522 r7520.1.length c7523), (35, .bool r7520.2)] (by kernel_rfl) ?_
                                  refine G_dagL 29 [[], [0], [1], [2], [2, 3], [2, 4], [5], [6], [6], [6], [6, 8, 9], [6], [6], [6, 11, 12], [6, 10, 13], [6, 7, 14], [6, 15], [6, 16], [17], [18], [18], [18, 20], [18, 19, 21], [18, 22], [23], [23, 24], [23], [23, 26], [23, 27]] [[], [], [], [], [], [], [], [], [], [], [8], [], [], [], [10], [], [], [], [], [], [], [], [], [], [], [], [], [], []] [[], [], [], [], [], [], [], [], [], [], [], [], [], [], [], [14], [], [], [], [], [], [], [], [], [], [], [], [], []] [[], [], [], [], [], [], [], [], [], [], [], [], [], [], [], [], [], [], [], [], [], [], [], [], [], [], [], [], []] [[], [], [], [], [], [], [], [], [], [], [], [], [], [], [], [], [], [], [], [], [], [], [], [], [], [], [], [], []] [[], [], [], [], [], [], [], [], [], [], [], [], [], [], [], [], [], [], [], [], [], [], [], [], [], [], [], [], []] (fun _ => []) (fun i => ([fun f v s => v = (.bool r7511.2 : Value) ∧ s = [], fun f v s => v = (.bool (!r7511.2) : Value) ∧ s = [], fun f v s => v = (.bool false : Value) ∧ s = [], fun f v s => v = (.bool r7520.2 : Value) ∧ s = [], fun f v s => v = (.bool (!r7520.2) : Value) ∧ s = [], fun f v s => v = (.bool (!r7520.2) : Value) ∧ s = [], fun f v s => v = (.bool false : Value) ∧ s = [], fun f v s => v = (.slice p7522 r7520.1.length c7523 : Value) ∧ s = [], fun f v s => ∃ (p8423 : Option Addr) (c8424 : Nat), v = (.slice p8423 ([] : List Int).length c8424 : Value) ∧ ownS encI ([] : List Int) p8423 c8424 s, fun f v s => v = (.slice p7513 r7511.1.length c7514 : Value) ∧ s = [], fun f v s => ∃ (p8429 : Option Addr) (c8430 : Nat), v = (.slice p8429 ap8427.length c8430 : Value) ∧ ownS encI ap8427 p8429 c8430 s, fun f v s => v = (.slice p5770 r5763.2.length c5771 : Value) ∧ s = [], fun f v s => v = (.int .i64 r5784.2.1 : Value) ∧ s = [], fun f v s => v = (.slice (subP p5770 (0 : Int).toNat c5771 1) ys8433.length (c5771 - (0 : Int).toNat) : Value) ∧ s = [], fun f v s => ∃ (p8437 : Option Addr) (c8438 : Nat), v = (.slice p8437 ap8435.length c8438 : Value) ∧ ownS encI ap8435 p8437 c8438 s, fun f v s => v = (.bool r8441 : Value) ∧ s = [], fun f v s => v = (.bool (!r8441) : Value) ∧ s = [], fun f v s => v = (.bool (!r8441) : Value) ∧ s = [], fun f v s => v = (.bool false : Value) ∧ s = [], fun f v s => v = (.int .i64 r5784.2.1 : Value) ∧ s = [], fun f v s => v = (.slice p5770 r5763.2.length c5771 : Value) ∧ s = [], fun f v s => v = (.int .i64 (r5763.2.length : Int) : Value) ∧ s = [], fun f v s => v = (.bool (decide (r5784.2.1 < (r5763.2.length : Int))) : Value) ∧ s = [], fun f v s => v = (.bool true : Value) ∧ s = [], fun f v s => v = (.slice p7522 r7520.1.length c7523 : Value) ∧ s = [], fun f v s => v = (.int .i64 (r7520.1.length : Int) : Value) ∧ s = [], fun f v s => v = (.pointer (some ⟨b5779, 0, none⟩) : Value) ∧ s = [], fun f v s => v = (.slice p5765 r5763.1.Items.length c5766 : Value) ∧ s = [], fun f v s => v = (.int .i64 (r5763.1.Items.length : Int) : Value) ∧ s = []] : List ((Nat → Value) → Value → Seg → Prop)).getD i (fun _ _ _ => False)) (fun j f v => ∃ s, (fun i => ([fun f v s => v = (.bool r7511.2 : Value) ∧ s = [], fun f v s => v = (.bool (!r7511.2) : Value) ∧ s = [], fun f v s => v = (.bool false : Value) ∧ s = [], fun f v s => v = (.bool r7520.2 : Value) ∧ s = [], fun f v s => v = (.bool (!r7520.2) : Value) ∧ s = [], fun f v s => v = (.bool (!r7520.2) : Value) ∧ s = [], fun f v s => v = (.bool false : Value) ∧ s = [], fun f v s => v = (.slice p7522 r7520.1.length c7523 : Value) ∧ s = [], fun f v s => ∃ (p8423 : Option Addr) (c8424 : Nat), v = (.slice p8423 ([] : List Int).length c8424 : Value) ∧ ownS encI ([] : List Int) p8423 c8424 s, fun f v s => v = (.slice p7513 r7511.1.length c7514 : Value) ∧ s = [], fun f v s => ∃ (p8429 : Option Addr) (c8430 : Nat), v = (.slice p8429 ap8427.length c8430 : Value) ∧ ownS encI ap8427 p8429 c8430 s, fun f v s => v = (.slice p5770 r5763.2.length c5771 : Value) ∧ s = [], fun f v s => v = (.int .i64 r5784.2.1 : Value) ∧ s = [], fun f v s => v = (.slice (subP p5770 (0 : Int).toNat c5771 1) ys8433.length (c5771 - (0 : Int).toNat) : Value) ∧ s = [], fun f v s => ∃ (p8437 : Option Addr) (c8438 : Nat), v = (.slice p8437 ap8435.length c8438 : Value) ∧ ownS encI ap8435 p8437 c8438 s, fun f v s => v = (.bool r8441 : Value) ∧ s = [], fun f v s => v = (.bool (!r8441) : Value) ∧ s = [], fun f v s => v = (.bool (!r8441) : Value) ∧ s = [], fun f v s => v = (.bool false : Value) ∧ s = [], fun f v s => v = (.int .i64 r5784.2.1 : Value) ∧ s = [], fun f v s => v = (.slice p5770 r5763.2.length c5771 : Value) ∧ s = [], fun f v s => v = (.int .i64 (r5763.2.length : Int) : Value) ∧ s = [], fun f v s => v = (.bool (decide (r5784.2.1 < (r5763.2.length : Int))) : Value) ∧ s = [], fun f v s => v = (.bool true : Value) ∧ s = [], fun f v s => v = (.slice p7522 r7520.1.length c7523 : Value) ∧ s = [], fun f v s => v = (.int .i64 (r7520.1.length : Int) : Value) ∧ s = [], fun f v s => v = (.pointer (some ⟨b5779, 0, none⟩) : Value) ∧ s = [], fun f v s => v = (.slice p5765 r5763.1.Items.length c5766 : Value) ∧ s = [], fun f v s => v = (.int .i64 (r5763.1.Items.length : Int) : Value) ∧ s = []] : List ((Nat → Value) → Value → Seg → Prop)).getD i (fun _ _ _ => False)) j f v s) [] [14, 18, 23, 25, 28] [14] (fun _ _ _ s h => ⟨s, h⟩) (by kernel_rfl) (by kernel_rfl) (M7528.preNil 29) (by kernel_rfl) (by kernel_rfl) (by kernel_rfl) (by kernel_rfl) (allOb_cons ?_ (allOb_cons ?_ (allOb_cons ?_ (allOb_cons ?_ (allOb_cons ?_ (allOb_cons ?_ (allOb_cons ?_ (allOb_cons ?_ (allOb_cons ?_ (allOb_cons ?_ (allOb_cons ?_ (allOb_cons ?_ (allOb_cons ?_ (allOb_cons ?_ (allOb_cons ?_ (allOb_cons ?_ (allOb_cons ?_ (allOb_cons ?_ (allOb_cons ?_ (allOb_cons ?_ (allOb_cons ?_ (allOb_cons ?_ (allOb_cons ?_ (allOb_cons ?_ (allOb_cons ?_ (allOb_cons ?_ (allOb_cons ?_ (allOb_cons ?_ (allOb_cons ?_ allOb_nil))))))))))))))))))))))))))))) ?_
                                  · intro g8568 f8569
                                    intro R w8570 M8571
                                    refine W_run 1 [(232, .bool r7511.2)] w8570 (by kernel_rfl) ?_
                                    exact W_nil (ob_end (.bool r7511.2) [] rfl (by kernel_rfl) ⟨by kernel_rfl, rfl⟩ M8571)
                                  · intro g8568 f8569
                                    intro v0_ hb0_
                                    obtain ⟨rfl, _⟩ := hb0_
                                    intro R w8574 M8575
                                    refine W_run 1 [(233, .bool (!r7511.2))] w8574 (by kernel_rfl) ?_
                                    exact W_nil (ob_end (.bool (!r7511.2)) [] rfl (by kernel_rfl) ⟨by kernel_rfl, rfl⟩ M8575)
                                  · intro g8568 f8569
                                    intro v1_ hb1_
                                    obtain ⟨rfl, _⟩ := hb1_
                                    intro R w8578 M8579
                                    refine W_run 1 [(234, .bool (!r7511.2))] w8578 (by kernel_rfl) ?_
                                    refine W_conv 234 (.bool (!r7511.2)) (.bool false) (by kernel_rfl) (by rw [hc8174]) ?_
                                    exact W_nil (ob_end (.bool false) [] rfl (by kernel_rfl) ⟨by kernel_rfl, rfl⟩ M8579)
                                  · intro g8568 f8569
                                    intro v2_ hb2_
                                    obtain ⟨rfl, _⟩ := hb2_
                                    intro R w8582 M8583
                                    refine W_run 1 [(235, .bool r7520.2)] w8582 (by kernel_rfl) ?_
                                    exact W_nil (ob_end (.bool r7520.2) [] rfl (by kernel_rfl) ⟨by kernel_rfl, rfl⟩ M8583)
                                  · intro g8568 f8569
                                    intro v2_ hb2_
                                    obtain ⟨rfl, _⟩ := hb2_
                                    intro v3_ hb3_
                                    obtain ⟨rfl, _⟩ := hb3_
                                    intro R w8586 M8587
                                    refine W_run 1 [(236, .bool (!r7520.2))] w8586 (by kernel_rfl) ?_
                                    exact W_nil (ob_end (.bool (!r7520.2)) [] rfl (by kernel_rfl) ⟨by kernel_rfl, rfl⟩ M8587)
                                  · intro g8568 f8569
                                    intro v2_ hb2_
                                    obtain ⟨rfl, _⟩ := hb2_
                                    intro v4_ hb4_
                                    obtain ⟨rfl, _⟩ := hb4_
                                    intro R w8590 M8591
                                    refine W_run 1 [(237, .bool (!r7520.2))] w8590 (by kernel_rfl) ?_
                                    exact W_nil (ob_end (.bool (!r7520.2)) [] rfl (by kernel_rfl) ⟨by kernel_rfl, rfl⟩ M8591)
                                  · intro g8568 f8569
                                    intro v5_ hb5_
                                    obtain ⟨rfl, _⟩ := hb5_
                                    intro R w8594 M8595
                                    refine W_run 1 [(238, .bool (!r7520.2))] w8594 (by kernel_rfl) ?_
                                    refine W_conv 238 (.bool (!r7520.2)) (.bool false) (by kernel_rfl) (by rw [hc8298]) ?_
                                    exact W_nil (ob_end (.bool false) [] rfl (by kernel_rfl) ⟨by kernel_rfl, rfl⟩ M8595)
                                  · intro g8568 f8569
                                    intro v6_ hb6_
                                    obtain ⟨rfl, _⟩ := hb6_
                                    intro R w8598 M8599
                                    refine W_run 1 [(239, .slice p7522 r7520.1.length c7523)] w8598 (by kernel_rfl) ?_
                                    exact W_nil (ob_end (.slice p7522 r7520.1.length c7523) [] rfl (by kernel_rfl) ⟨by kernel_rfl, rfl⟩ M8599)
                                  · intro g8568 f8569
                                    intro v6_ hb6_
                                    obtain ⟨rfl, _⟩ := hb6_
                                    intro R w8602 M8603
                                    refine W_lit (E := encI) ([] : List Int) 0 [] 3 M8603 (by kernel_rfl) (by kernel_rfl) (by kernel_rfl) (by kernel_rfl) (by kernel_rfl) ?_
                                    intro p8423 c8424 sg8425 w8604 ho8426 M8605
                                    exact W_nil (ob_end (.slice p8423 ([] : List Int).length c8424) sg8425 rfl (by kernel_rfl) ⟨p8423, c8424, rfl, ho8426⟩ (Mem.mid M8605))
                                  · intro g8568 f8569
                                    intro v6_ hb6_
                                    obtain ⟨rfl, _⟩ := hb6_
                                    intro R w8606 M8607
                                    refine W_run 1 [(241, .slice p7513 r7511.1.length c7514)] w8606 (by kernel_rfl) ?_
                                    exact W_nil (ob_end (.slice p7513 r7511.1.length c7514) [] rfl (by kernel_rfl) ⟨by kernel_rfl, rfl⟩ M8607)
                                  · intro g8568 f8569
                                    intro v6_ hb6_
                                    obtain ⟨rfl, _⟩ := hb6_
                                    intro v8_ hb8_
                                    obtain ⟨p8423, c8424, rfl, ho8426⟩ := hb8_
                                    intro v9_ hb9_
                                    obtain ⟨rfl, _⟩ := hb9_
                                    intro R w8610 M8611
                                    refine W_append (E := encI) _ _ _ 8 [.int .i64 0] 8 c7514 M8611 ho8426 (by kernel_rfl) (by kernel_rfl) (by kernel_rfl) rfl (by kernel_rfl) (by kernel_rfl) (by kernel_rfl) (by kernel_rfl) (by kernel_rfl) (by kernel_rfl) (ho7516.rd M8611 5 (by kernel_rfl)) hap8427 ?_
                                    intro p8429 c8430 sg8431 w8612 ho8432 M8613
                                    exact W_nil (ob_end (.slice p8429 ap8427.length c8430) sg8431 rfl (by kernel_rfl) ⟨p8429, c8430, rfl, ho8432⟩ (Mem.takeOver M8613))
                                  · intro g8568 f8569
                                    intro v6_ hb6_
                                    obtain ⟨rfl, _⟩ := hb6_
                                    intro R w8614 M8615
                                    refine W_run 1 [(243, .slice p5770 r5763.2.length c5771)] w8614 (by kernel_rfl) ?_
                                    exact W_nil (ob_end (.slice p5770 r5763.2.length c5771) [] rfl (by kernel_rfl) ⟨by kernel_rfl, rfl⟩ M8615)
                                  · intro g8568 f8569
                                    intro v6_ hb6_
                                    obtain ⟨rfl, _⟩ := hb6_
                                    intro R w8618 M8619
                                    refine W_run 1 [(244, .int .i64 r5784.2.1)] w8618 (by kernel_rfl) ?_
                                    exact W_nil (ob_end (.int .i64 r5784.2.1) [] rfl (by kernel_rfl) ⟨by kernel_rfl, rfl⟩ M8619)
                                  · intro g8568 f8569
                                    intro v6_ hb6_
                                    obtain ⟨rfl, _⟩ := hb6_
                                    intro v11_ hb11_
                                    obtain ⟨rfl, _⟩ := hb11_
                                    intro v12_ hb12_
                                    obtain ⟨rfl, _⟩ := hb12_
                                    intro R w8622 M8623
                                    refine W_val (.slice (subP p5770 (0 : Int).toNat c5771 1) ys8433.length (c5771 - (0 : Int).toNat)) w8622 (by kernel_rfl) (E_slice (E := encI) _ _ _ _ r5763.2.length 0 r5784.2.1 rfl (by kernel_rfl) (Or.inl ⟨rfl, rfl⟩) (Or.inr ⟨_, rfl, by kernel_rfl⟩) (by kernel_rfl) (ho5773.rd M8623 1 (by kernel_rfl)) rfl hys8433) ?_
                                    exact W_nil (ob_end (.slice (subP p5770 (0 : Int).toNat c5771 1) ys8433.length (c5771 - (0 : Int).toNat)) [] rfl (by kernel_rfl) ⟨by kernel_rfl, rfl⟩ M8623)
                                  · intro g8568 f8569
                                    intro v6_ hb6_
                                    obtain ⟨rfl, _⟩ := hb6_
                                    intro v10_ hb10_
                                    obtain ⟨p8429, c8430, rfl, ho8432⟩ := hb10_
                                    intro v13_ hb13_
                                    obtain ⟨rfl, _⟩ := hb13_
                                    intro R w8626 M8627
                                    refine W_append (E := encI) _ _ _ 8 [.int .i64 0] 8 (c5771 - (0 : Int).toNat) M8627 ho8432 (by kernel_rfl) (by kernel_rfl) (by kernel_rfl) rfl (by kernel_rfl) (by kernel_rfl) (by kernel_rfl) (by kernel_rfl) (by kernel_rfl) (by kernel_rfl) ((ho5773.rd M8627 1 (by kernel_rfl)).sliceM hys8433) hap8435 ?_
                                    intro p8437 c8438 sg8439 w8628 ho8440 M8629
                                    exact W_nil (ob_end (.slice p8437 ap8435.length c8438) sg8439 rfl (by kernel_rfl) ⟨p8437, c8438, rfl, ho8440⟩ (Mem.takeOver M8629))
                                  · intro g8568 f8569
                                    intro v6_ hb6_
                                    obtain ⟨rfl, _⟩ := hb6_
                                    intro v7_ hb7_
                                    obtain ⟨rfl, _⟩ := hb7_
                                    intro v14_ hb14_
                                    obtain ⟨p8437, c8438, rfl, ho8440⟩ := hb14_
                                    intro R w8630 M8631
                                    refine W_call 45 #[.slice p7522 r7520.1.length c7523, .slice p8437 ap8435.length c8438] (by kernel_rfl) (by kernel_rfl) ?_
                                    refine (c_l_vInts w8630 r7520.1 p7522 c7523 (ho7525.rd M8631 6 (by kernel_rfl)) ap8435 p8437 c8438 (ho8440.rd M8631 8 (by kernel_rfl)) hr8441).mono ?_
                                    rintro e_ w8632 ⟨rfl, K8634⟩
                                    refine ⟨_, rfl, ?_⟩
                                    exact W_nil (ob_end (.bool r8441) [] rfl (by kernel_rfl) ⟨rfl, rfl⟩ (M8631.call0 K8634))
                                  · intro g8568 f8569
                                    intro v6_ hb6_
                                    obtain ⟨rfl, _⟩ := hb6_
                                    intro v15_ hb15_
                                    obtain ⟨rfl, _⟩ := hb15_
                                    intro R w8635 M8636
                                    refine W_run 1 [(248, .bool (!r8441))] w8635 (by kernel_rfl) ?_
                                    exact W_nil (ob_end (.bool (!r8441)) [] rfl (by kernel_rfl) ⟨by kernel_rfl, rfl⟩ M8636)
                                  · intro g8568 f8569
                                    intro v6_ hb6_
                                    obtain ⟨rfl, _⟩ := hb6_
                                    intro v16_ hb16_
                                    obtain ⟨rfl, _⟩ := hb16_
                                    intro R w8639 M8640
                                    refine W_run 1 [(249, .bool (!r8441))] w8639 (by kernel_rfl) ?_
                                    exact W_nil (ob_end (.bool (!r8441)) [] rfl (by kernel_rfl) ⟨by kernel_rfl, rfl⟩ M8640)
                                  · intro g8568 f8569
                                    intro v17_ hb17_
                                    obtain ⟨rfl, _⟩ := hb17_
                                    intro R w8643 M8644
                                    refine W_run 1 [(250, .bool (!r8441))] w8643 (by kernel_rfl) ?_
                                    refine W_conv 250 (.bool (!r8441)) (.bool false) (by kernel_rfl) (by rw [hc8442]) ?_
                                    exact W_nil (ob_end (.bool false) [] rfl (by kernel_rfl) ⟨by kernel_rfl, rfl⟩ M8644)
                                  · intro g8568 f8569
                                    intro v18_ hb18_
                                    obtain ⟨rfl, _⟩ := hb18_
                                    intro R w8647 M8648
                                    refine W_run 1 [(251, .int .i64 r5784.2.1)] w8647 (by kernel_rfl) ?_
                                    exact W_nil (ob_end (.int .i64 r5784.2.1) [] rfl (by kernel_rfl) ⟨by kernel_rfl, rfl⟩ M8648)
                                  · intro g8568 f8569
                                    intro v18_ hb18_
                                    obtain ⟨rfl, _⟩ := hb18_
                                    intro R w8651 M8652
                                    refine W_run 1 [(252, .slice p5770 r5763.2.length c5771)] w8651 (by kernel_rfl) ?_
                                    exact W_nil (ob_end (.slice p5770 r5763.2.length c5771) [] rfl (by kernel_rfl) ⟨by kernel_rfl, rfl⟩ M8652)
                                  · intro g8568 f8569
                                    intro v18_ hb18_
                                    obtain ⟨rfl, _⟩ := hb18_
                                    intro v20_ hb20_
                                    obtain ⟨rfl, _⟩ := hb20_
                                    intro R w8655 M8656
                                    refine W_run 1 [(253, .int .i64 (r5763.2.length : Int))] w8655 (by kernel_rfl) ?_
                                    exact W_nil (ob_end (.int .i64 (r5763.2.length : Int)) [] rfl (by kernel_rfl) ⟨by kernel_rfl, rfl⟩ M8656)
                                  · intro g8568 f8569
                                    intro v18_ hb18_
                                    obtain ⟨rfl, _⟩ := hb18_
                                    intro v19_ hb19_
                                    obtain ⟨rfl, _⟩ := hb19_
                                    intro v21_ hb21_
                                    obtain ⟨rfl, _⟩ := hb21_
                                    intro R w8659 M8660
                                    refine W_run 1 [(254, .bool (decide (r5784.2.1 < (r5763.2.length : Int))))] w8659 (by kernel_rfl) ?_
                                    exact W_nil (ob_end (.bool (decide (r5784.2.1 < (r5763.2.length : Int)))) [] rfl (by kernel_rfl) ⟨by kernel_rfl, rfl⟩ M8660)
                                  · intro g8568 f8569
                                    intro v18_ hb18_
                                    obtain ⟨rfl, _⟩ := hb18_
                                    intro v22_ hb22_
                                    obtain ⟨rfl, _⟩ := hb22_
                                    intro R w8663 M8664
                                    refine W_run 1 [(255, .bool (decide (r5784.2.1 < (r5763.2.length : Int))))] w8663 (by kernel_rfl) ?_
                                    refine W_conv 255 (.bool (decide (r5784.2.1 < (r5763.2.length : Int)))) (.bool true) (by kernel_rfl) (by rw [hc8567]) ?_
                                    exact W_nil (ob_end (.bool true) [] rfl (by kernel_rfl) ⟨by kernel_rfl, rfl⟩ M8664)
                                  · intro g8568 f8569
                                    intro v23_ hb23_
                                    obtain ⟨rfl, _⟩ := hb23_
                                    intro R w8667 M8668
                                    refine W_run 1 [(256, .slice p7522 r7520.1.length c7523)] w8667 (by kernel_rfl) ?_
                                    exact W_nil (ob_end (.slice p7522 r7520.1.length c7523) [] rfl (by kernel_rfl) ⟨by kernel_rfl, rfl⟩ M8668)
                                  · intro g8568 f8569
                                    intro v23_ hb23_
                                    obtain ⟨rfl, _⟩ := hb23_
                                    intro v24_ hb24_
                                    obtain ⟨rfl, _⟩ := hb24_
                                    intro R w8671 M8672
                                    refine W_run 1 [(257, .int .i64 (r7520.1.length : Int))] w8671 (by kernel_rfl) ?_
                                    exact W_nil (ob_end (.int .i64 (r7520.1.length : Int)) [] rfl (by kernel_rfl) ⟨by kernel_rfl, rfl⟩ M8672)
                                  · intro g8568 f8569
                                    intro v23_ hb23_
                                    obtain ⟨rfl, _⟩ := hb23_
                                    intro R w8675 M8676
                                    refine W_run 1 [(258, .pointer (some ⟨b5779, 0, none⟩))] w8675 (by kernel_rfl) ?_
                                    exact W_nil (ob_end (.pointer (some ⟨b5779, 0, none⟩)) [] rfl (by kernel_rfl) ⟨by kernel_rfl, rfl⟩ M8676)
                                  · intro g8568 f8569
                                    intro v23_ hb23_
                                    obtain ⟨rfl, _⟩ := hb23_
                                    intro v26_ hb26_
                                    obtain ⟨rfl, _⟩ := hb26_
                                    intro R w8679 M8680
                                    refine W_val (.slice p5765 r5763.1.Items.length c5766) w8679 (by kernel_rfl) (E_load (e := 27) (fr := (0, 0)) _ _ false 1 b5779 0 [.slice p5765 r5763.1.Items.length c5766, .int .i64 r5763.1.Head, .int .i64 r5763.1.Tail] (.slice p5765 r5763.1.Items.length c5766) rfl (by kernel_rfl) (by kernel_rfl) (by kernel_rfl) (M8680.blk 2 (b := b5779) (o := .cells ⟨[.slice p5765 r5763.1.Items.length c5766, .int .i64 r5763.1.Head, .int .i64 r5763.1.Tail]⟩ 27 (0, 0)) (by kernel_rfl))) ?_
                                    exact W_nil (ob_end (.slice p5765 r5763.1.Items.length c5766) [] rfl (by kernel_rfl) ⟨by kernel_rfl, rfl⟩ M8680)
                                  · intro g8568 f8569
                                    intro v23_ hb23_
                                    obtain ⟨rfl, _⟩ := hb23_
                                    intro v27_ hb27_
                                    obtain ⟨rfl, _⟩ := hb27_
                                    intro R w8683 M8684
                                    refine W_run 1 [(260, .int .i64 (r5763.1.Items.length : Int))] w8683 (by kernel_rfl) ?_
                                    exact W_nil (ob_end (.int .i64 (r5763.1.Items.length : Int)) [] rfl (by kernel_rfl) ⟨by kernel_rfl, rfl⟩ M8684)
                                  · intro g8568 f8569
                                    intro v14_ hb14_
                                    obtain ⟨p8437, c8438, rfl, ho8440⟩ := hb14_
                                    intro v18_ hb18_
                                    obtain ⟨rfl, _⟩ := hb18_
                                    intro v23_ hb23_
                                    obtain ⟨rfl, _⟩ := hb23_
                                    intro v25_ hb25_
                                    obtain ⟨rfl, _⟩ := hb25_
                                    intro v28_ hb28_
                                    obtain ⟨rfl, _⟩ := hb28_
                                    intro w8687 M8688
                                    have M8689 : Mem [] w w8687 [sg5767, sg5772, [(b5779, .cells ⟨[.slice p5765 r5763.1.Items.length c5766, .int .i64 r5763.1.Head, .int .i64 r5763.1.Tail]⟩ 27 (0, 0))], sg5788, [(b5795, .cells ⟨[.slice p5786 r5784.1.Items.length c5787, .int .i64 r5784.1.Head, .int .i64 r5784.1.Tail]⟩ 27 (0, 0))], sg7515, sg7524, (g8568 14)] := M8688
                                    refine W_run 3 [(0, .slice p4356 x4354.length c4357), (263, .bool ((r7520.1.length : Int) != (r5763.1.Items.length : Int)))] w8687 (by kernel_rfl) ?_
                                    refine W_nil ?_
                                    obtain rfl := Option.some.inj hm
                                    exact N_meet fun a ha => ⟨M8689.pick [] (by kernel_rfl), ha.sub (by kernel_rfl)⟩
                                · refine G_sub [(0, .slice p4356 x4354.length c4357), (24, .pointer (some ⟨b5779, 0, none⟩)), (25, .slice p5770 r5763.2.length c5771), (27, .int .i64 r5784.2.1), (32, .slice p7513 r7511.1.length c7514), (33, .bool r7511.2), (34, .slice p7522 r7520.1.length c7523), (35, .bool r7520.2)] (by kernel_rfl) ?_
                                  refine G_dagL 29 [[], [0], [1], [2], [2, 3], [2, 4], [5], [6], [6], [6], [6, 8, 9], [6], [6], [6, 11, 12], [6, 10, 13], [6, 7, 14], [6, 15], [6, 16], [17], [18], [18], [18, 20], [18, 19, 21], [18, 22], [23], [23], [23], [23], [23]] [[], [], [], [], [], [], [], [], [], [], [8], [], [], [], [10], [], [], [], [], [], [], [], [], [], [], [], [], [], []] [[], [], [], [], [], [], [], [], [], [], [], [], [], [], [], [14], [], [], [], [], [], [], [], [], [], [], [], [], []] [[], [], [], [], [], [], [], [], [], [], [], [], [], [], [], [], [], [], [], [], [], [], [], [], [], [], [], [], []] [[], [], [], [], [], [], [], [], [], [], [], [], [], [], [], [], [], [], [], [], [], [], [], [], [], [], [], [], []] [[], [], [], [], [], [], [], [], [], [], [], [], [], [], [], [], [], [], [], [], [], [], [], [], [], [], [], [], []] (fun _ => []) (fun i => ([fun f v s => v = (.bool r7511.2 : Value) ∧ s = [], fun f v s => v = (.bool (!r7511.2) : Value) ∧ s = [], fun f v s => v = (.bool false : Value) ∧ s = [], fun f v s => v = (.bool r7520.2 : Value) ∧ s = [], fun f v s => v = (.bool (!r7520.2) : Value) ∧ s = [], fun f v s => v = (.bool (!r7520.2) : Value) ∧ s = [], fun f v s => v = (.bool false : Value) ∧ s = [], fun f v s => v = (.slice p7522 r7520.1.length c7523 : Value) ∧ s = [], fun f v s => ∃ (p8423 : Option Addr) (c8424 : Nat), v = (.slice p8423 ([] : List Int).length c8424 : Value) ∧ ownS encI ([] : List Int) p8423 c8424 s, fun f v s => v = (.slice p7513 r7511.1.length c7514 : Value) ∧ s = [], fun f v s => ∃ (p8429 : Option Addr) (c8430 : Nat), v = (.slice p8429 ap8427.length c8430 : Value) ∧ ownS encI ap8427 p8429 c8430 s, fun f v s => v = (.slice p5770 r5763.2.length c5771 : Value) ∧ s = [], fun f v s => v = (.int .i64 r5784.2.1 : Value) ∧ s = [], fun f v s => v = (.slice (subP p5770 (0 : Int).toNat c5771 1) ys8433.length (c5771 - (0 : Int).toNat) : Value) ∧ s = [], fun f v s => ∃ (p8437 : Option Addr) (c8438 : Nat), v = (.slice p8437 ap8435.length c8438 : Value) ∧ ownS encI ap8435 p8437 c8438 s, fun f v s => v = (.bool r8441 : Value) ∧ s = [], fun f v s => v = (.bool (!r8441) : Value) ∧ s = [], fun f v s => v = (.bool (!r8441) : Value) ∧ s = [], fun f v s => v = (.bool false : Value) ∧ s = [], fun f v s => v = (.int .i64 r5784.2.1 : Value) ∧ s = [], fun f v s => v = (.slice p5770 r5763.2.length c5771 : Value) ∧ s = [], fun f v s => v = (.int .i64 (r5763.2.length : Int) : Value) ∧ s = [], fun f v s => v = (.bool (decide (r5784.2.1 < (r5763.2.length : Int))) : Value) ∧ s = [], fun f v s => v = (.bool false : Value) ∧ s = [], fun f v s => v = (undef : Value) ∧ s = [], fun f v s => v = (undef : Value) ∧ s = [], fun f v s => v = (undef : Value) ∧ s = [], fun f v s => v = (undef : Value) ∧ s = [], fun f v s => v = (undef : Value) ∧ s = []] : List ((Nat → Value) → Value → Seg → Prop)).getD i (fun _ _ _ => False)) (fun j f v => ∃ s, (fun i => ([fun f v s => v = (.bool r7511.2 : Value) ∧ s = [], fun f v s => v = (.bool (!r7511.2) : Value) ∧ s = [], fun f v s => v = (.bool false : Value) ∧ s = [], fun f v s => v = (.bool r7520.2 : Value) ∧ s = [], fun f v s => v = (.bool (!r7520.2) : Value) ∧ s = [], fun f v s => v = (.bool (!r7520.2) : Value) ∧ s = [], fun f v s => v = (.bool false : Value) ∧ s = [], fun f v s => v = (.slice p7522 r7520.1.length c7523 : Value) ∧ s = [], fun f v s => ∃ (p8423 : Option Addr) (c8424 : Nat), v = (.slice p8423 ([] : List Int).length c8424 : Value) ∧ ownS encI ([] : List Int) p8423 c8424 s, fun f v s => v = (.slice p7513 r7511.1.length c7514 : Value) ∧ s = [], fun f v s => ∃ (p8429 : Option Addr) (c8430 : Nat), v = (.slice p8429 ap8427.length c8430 : Value) ∧ ownS encI ap8427 p8429 c8430 s, fun f v s => v = (.slice p5770 r5763.2.length c5771 : Value) ∧ s = [], fun f v s => v = (.int .i64 r5784.2.1 : Value) ∧ s = [], fun f v s => v = (.slice (subP p5770 (0 : Int).toNat c5771 1) ys8433.length (c5771 - (0 : Int).toNat) : Value) ∧ s = [], fun f v s => ∃ (p8437 : Option Addr) (c8438 : Nat), v = (.slice p8437 ap8435.length c8438 : Value) ∧ ownS encI ap8435 p8437 c8438 s, fun f v s => v = (.bool r8441 : Value) ∧ s = [], fun f v s => v = (.bool (!r8441) : Value) ∧ s = [], fun f v s => v = (.bool (!r8441) : Value) ∧ s = [], fun f v s => v = (.bool false : Value) ∧ s = [], fun f v s => v = (.int .i64 r5784.2.1 : Value) ∧ s = [], fun f v s => v = (.slice p5770 r5763.2.length c5771 : Value) ∧ s = [], fun f v s => v = (.int .i64 (r5763.2.length : Int) : Value) ∧ s = [], fun f v s => v = (.bool (decide (r5784.2.1 < (r5763.2.length : Int))) : Value) ∧ s = [], fun f v s => v = (.bool false : Value) ∧ s = [], fun f v s => v = (undef : Value) ∧ s = [], fun f v s => v = (undef : Value) ∧ s = [], fun f v s => v = (undef : Value) ∧ s = [], fun f v s => v = (undef : Value) ∧ s = [], fun f v s => v = (undef : Value) ∧ s = []] : List ((Nat → Value) → Value → Seg → Prop)).getD i (fun _ _ _ => False)) j f v s) [] [14, 18, 23, 25, 28] [14] (fun _ _ _ s h => ⟨s, h⟩) (by kernel_rfl) (by kernel_rfl) (M7528.preNil 29) (by kernel_rfl) (by kernel_rfl) (by kernel_rfl) (by kernel_rfl) (allOb_cons ?_ (allOb_cons ?_ (allOb_cons ?_ (allOb_cons ?_ (allOb_cons ?_ (allOb_cons ?_ (allOb_cons ?_ (allOb_cons ?_ (allOb_cons ?_ (allOb_cons ?_ (allOb_cons ?_ (allOb_cons ?_ (allOb_cons ?_ (allOb_cons ?_ (allOb_cons ?_ (allOb_cons ?_ (allOb_cons ?_ (allOb_cons ?_ (allOb_cons ?_ (allOb_cons ?_ (allOb_cons ?_ (allOb_cons ?_ (allOb_cons ?_ (allOb_cons ?_ (allOb_cons ?_ (allOb_cons ?_ (allOb_cons ?_ (allOb_cons ?_ (allOb_cons ?_ allOb_nil))))))))))))))))))))))))))))) ?_
                                  · intro g8690 f8691
                                    intro R w8692 M8693
                                    refine W_run 1 [(232, .bool r7511.2)] w8692 (by kernel_rfl) ?_
                                    exact W_nil (ob_end (.bool r7511.2) [] rfl (by kernel_rfl) ⟨by kernel_rfl, rfl⟩ M8693)
                                  · intro g8690 f8691
                                    intro v0_ hb0_
                                    obtain ⟨rfl, _⟩ := hb0_
                                    intro R w8696 M8697
                                    refine W_run 1 [(233, .bool (!r7511.2))] w8696 (by kernel_rfl) ?_
                                    exact W_nil (ob_end (.bool (!r7511.2)) [] rfl (by kernel_rfl) ⟨by kernel_rfl, rfl⟩ M8697)
                                  · intro g8690 f8691
                                    intro v1_ hb1_
                                    obtain ⟨rfl, _⟩ := hb1_
                                    intro R w8700 M8701
                                    refine W_run 1 [(234, .bool (!r7511.2))] w8700 (by kernel_rfl) ?_
                                    refine W_conv 234 (.bool (!r7511.2)) (.bool false) (by kernel_rfl) (by rw [hc8174]) ?_
                                    exact W_nil (ob_end (.bool false) [] rfl (by kernel_rfl) ⟨by kernel_rfl, rfl⟩ M8701)
                                  · intro g8690 f8691
                                    intro v2_ hb2_
                                    obtain ⟨rfl, _⟩ := hb2_
                                    intro R w8704 M8705
                                    refine W_run 1 [(235, .bool r7520.2)] w8704 (by kernel_rfl) ?_
                                    exact W_nil (ob_end (.bool r7520.2) [] rfl (by kernel_rfl) ⟨by kernel_rfl, rfl⟩ M8705)
                                  · intro g8690 f8691
                                    intro v2_ hb2_
                                    obtain ⟨rfl, _⟩ := hb2_
                                    intro v3_ hb3_
                                    obtain ⟨rfl, _⟩ := hb3_
                                    intro R w8708 M8709
                                    refine W_run 1 [(236, .bool (!r7520.2))] w8708 (by kernel_rfl) ?_
                                    exact W_nil (ob_end (.bool (!r7520.2)) [] rfl (by kernel_rfl) ⟨by kernel_rfl, rfl⟩ M8709)
                                  · intro g8690 f8691
                                    intro v2_ hb2_
                                    obtain ⟨rfl, _⟩ := hb2_
                                    intro v4_ hb4_
                                    obtain ⟨rfl, _⟩ := hb4_
                                    intro R w8712 M8713
                                    refine W_run 1 [(237, .bool (!r7520.2))] w8712 (by kernel_rfl) ?_
                                    exact W_nil (ob_end (.bool (!r7520.2)) [] rfl (by kernel_rfl) ⟨by kernel_rfl, rfl⟩ M8713)
                                  · intro g8690 f8691
                                    intro v5_ hb5_
                                    obtain ⟨rfl, _⟩ := hb5_
                                    intro R w8716 M8717
                                    refine W_run 1 [(238, .bool (!r7520.2))] w8716 (by kernel_rfl) ?_
                                    refine W_conv 238 (.bool (!r7520.2)) (.bool false) (by kernel_rfl) (by rw [hc8298]) ?_
                                    exact W_nil (ob_end (.bool false) [] rfl (by kernel_rfl) ⟨by kernel_rfl, rfl⟩ M8717)
                                  · intro g8690 f8691
                                    intro v6_ hb6_
                                    obtain ⟨rfl, _⟩ := hb6_
                                    intro R w8720 M8721
                                    refine W_run 1 [(239, .slice p7522 r7520.1.length c7523)] w8720 (by kernel_rfl) ?_
                                    exact W_nil (ob_end (.slice p7522 r7520.1.length c7523) [] rfl (by kernel_rfl) ⟨by kernel_rfl, rfl⟩ M8721)
                                  · intro g8690 f8691
                                    intro v6_ hb6_
                                    obtain ⟨rfl, _⟩ := hb6_
                                    intro R w8724 M8725
                                    refine W_lit (E := encI) ([] : List Int) 0 [] 3 M8725 (by kernel_rfl) (by kernel_rfl) (by kernel_rfl) (by kernel_rfl) (by kernel_rfl) ?_
                                    intro p8423 c8424 sg8425 w8726 ho8426 M8727
                                    exact W_nil (ob_end (.slice p8423 ([] : List Int).length c8424) sg8425 rfl (by kernel_rfl) ⟨p8423, c8424, rfl, ho8426⟩ (Mem.mid M8727))
                                  · intro g8690 f8691
                                    intro v6_ hb6_
                                    obtain ⟨rfl, _⟩ := hb6_
                                    intro R w8728 M8729
                                    refine W_run 1 [(241, .slice p7513 r7511.1.length c7514)] w8728 (by kernel_rfl) ?_
                                    exact W_nil (ob_end (.slice p7513 r7511.1.length c7514) [] rfl (by kernel_rfl) ⟨by kernel_rfl, rfl⟩ M8729)
                                  · intro g8690 f8691
                                    intro v6_ hb6_
                                    obtain ⟨rfl, _⟩ := hb6_
                                    intro v8_ hb8_
                                    obtain ⟨p8423, c8424, rfl, ho8426⟩ := hb8_
                                    intro v9_ hb9_
                                    obtain ⟨rfl, _⟩ := hb9_
                                    intro R w8732 M8733
                                    refine W_append (E := encI) _ _ _ 8 [.int .i64 0] 8 c7514 M8733 ho8426 (by kernel_rfl) (by kernel_rfl) (by kernel_rfl) rfl (by kernel_rfl) (by kernel_rfl) (by kernel_rfl) (by kernel_rfl) (by kernel_rfl) (by kernel_rfl) (ho7516.rd M8733 5 (by kernel_rfl)) hap8427 ?_
                                    intro p8429 c8430 sg8431 w8734 ho8432 M8735
                                    exact W_nil (ob_end (.slice p8429 ap8427.length c8430) sg8431 rfl (by kernel_rfl) ⟨p8429, c8430, rfl, ho8432⟩ (Mem.takeOver M8735))
                                  · intro g8690 f8691
                                    intro v6_ hb6_
                                    obtain ⟨rfl, _⟩ := hb6_
                                    intro R w8736 M8737
                                    refine W_run 1 [(243, .slice p5770 r5763.2.length c5771)] w8736 (by kernel_rfl) ?_
                                    exact W_nil (ob_end (.slice p5770 r5763.2.length c5771) [] rfl (by kernel_rfl) ⟨by kernel_rfl, rfl⟩ M8737)
                                  · intro g8690 f8691
                                    intro v6_ hb6_
                                    obtain ⟨rfl, _⟩ := hb6_
                                    intro R w8740 M8741
                                    refine W_run 1 [(244, .int .i64 r5784.2.1)] w8740 (by kernel_rfl) ?_
                                    exact W_nil (ob_end (.int .i64 r5784.2.1) [] rfl (by kernel_rfl) ⟨by kernel_rfl, rfl⟩ M8741)
                                  · intro g8690 f8691
                                    intro v6_ hb6_
                                    obtain ⟨rfl, _⟩ := hb6_
                                    intro v11_ hb11_
                                    obtain ⟨rfl, _⟩ := hb11_
                                    intro v12_ hb12_
                                    obtain ⟨rfl, _⟩ := hb12_
                                    intro R w8744 M8745
                                    refine W_val (.slice (subP p5770 (0 : Int).toNat c5771 1) ys8433.length (c5771 - (0 : Int).toNat)) w8744 (by kernel_rfl) (E_slice (E := encI) _ _ _ _ r5763.2.length 0 r5784.2.1 rfl (by kernel_rfl) (Or.inl ⟨rfl, rfl⟩) (Or.inr ⟨_, rfl, by kernel_rfl⟩) (by kernel_rfl) (ho5773.rd M8745 1 (by kernel_rfl)) rfl hys8433) ?_
                                    exact W_nil (ob_end (.slice (subP p5770 (0 : Int).toNat c5771 1) ys8433.length (c5771 - (0 : Int).toNat)) [] rfl (by kernel_rfl) ⟨by kernel_rfl, rfl⟩ M8745)
                                  · intro g8690 f8691
                                    intro v6_ hb6_
                                    obtain ⟨rfl, _⟩ := hb6_
                                    intro v10_ hb10_
                                    obtain ⟨p8429, c8430, rfl, ho8432⟩ := hb10_
                                    intro v13_ hb13_
                                    obtain ⟨rfl, _⟩ := hb13_
                                    intro R w8748 M8749
                                    refine W_append (E := encI) _ _ _ 8 [.int .i64 0] 8 (c5771 - (0 : Int).toNat) M8749 ho8432 (by kernel_rfl) (by kernel_rfl) (by kernel_rfl) rfl (by kernel_rfl) (by kernel_rfl) (by kernel_rfl) (by kernel_rfl) (by kernel_rfl) (by kernel_rfl) ((ho5773.rd M8749 1 (by kernel_rfl)).sliceM hys8433) hap8435 ?_
                                    intro p8437 c8438 sg8439 w8750 ho8440 M8751
                                    exact W_nil (ob_end (.slice p8437 ap8435.length c8438) sg8439 rfl (by kernel_rfl) ⟨p8437, c8438, rfl, ho8440⟩ (Mem.takeOver M8751))
                                  · intro g8690 f8691
                                    intro v6_ hb6_
                                    obtain ⟨rfl, _⟩ := hb6_
                                    intro v7_ hb7_
                                    obtain ⟨rfl, _⟩ := hb7_
                                    intro v14_ hb14_
                                    obtain ⟨p8437, c8438, rfl, ho8440⟩ := hb14_
                                    intro R w8752 M8753
                                    refine W_call 45 #[.slice p7522 r7520.1.length c7523, .slice p8437 ap8435.length c8438] (by kernel_rfl) (by kernel_rfl) ?_
                                    refine (c_l_vInts w8752 r7520.1 p7522 c7523 (ho7525.rd M8753 6 (by kernel_rfl)) ap8435 p8437 c8438 (ho8440.rd M8753 8 (by kernel_rfl)) hr8441).mono ?_
                                    rintro e_ w8754 ⟨rfl, K8756⟩
                                    refine ⟨_, rfl, ?_⟩
                                    exact W_nil (ob_end (.bool r8441) [] rfl (by kernel_rfl) ⟨rfl, rfl⟩ (M8753.call0 K8756))
                                  · intro g8690 f8691
                                    intro v6_ hb6_
                                    obtain ⟨rfl, _⟩ := hb6_
                                    intro v15_ hb15_
                                    obtain ⟨rfl, _⟩ := hb15_
                                    intro R w8757 M8758
                                    refine W_run 1 [(248, .bool (!r8441))] w8757 (by kernel_rfl) ?_
                                    exact W_nil (ob_end (.bool (!r8441)) [] rfl (by kernel_rfl) ⟨by kernel_rfl, rfl⟩ M8758)
                                  · intro g8690 f8691
                                    intro v6_ hb6_
                                    obtain ⟨rfl, _⟩ := hb6_
                                    intro v16_ hb16_
                                    obtain ⟨rfl, _⟩ := hb16_
                                    intro R w8761 M8762
                                    refine W_run 1 [(249, .bool (!r8441))] w8761 (by kernel_rfl) ?_
                                    exact W_nil (ob_end (.bool (!r8441)) [] rfl (by kernel_rfl) ⟨by kernel_rfl, rfl⟩ M8762)
                                  · intro g8690 f8691
                                    intro v17_ hb17_
                                    obtain ⟨rfl, _⟩ := hb17_
                                    intro R w8765 M8766
                                    refine W_run 1 [(250, .bool (!r8441))] w8765 (by kernel_rfl) ?_
                                    refine W_conv 250 (.bool (!r8441)) (.bool false) (by kernel_rfl) (by rw [hc8442]) ?_
                                    exact W_nil (ob_end (.bool false) [] rfl (by kernel_rfl) ⟨by kernel_rfl, rfl⟩ M8766)
                                  · intro g8690 f8691
                                    intro v18_ hb18_
                                    obtain ⟨rfl, _⟩ := hb18_
                                    intro R w8769 M8770
                                    refine W_run 1 [(251, .int .i64 r5784.2.1)] w8769 (by kernel_rfl) ?_
                                    exact W_nil (ob_end (.int .i64 r5784.2.1) [] rfl (by kernel_rfl) ⟨by kernel_rfl, rfl⟩ M8770)
                                  · intro g8690 f8691
                                    intro v18_ hb18_
                                    obtain ⟨rfl, _⟩ := hb18_
                                    intro R w8773 M8774
                                    refine W_run 1 [(252, .slice p5770 r5763.2.length c5771)] w8773 (by kernel_rfl) ?_
                                    exact W_nil (ob_end (.slice p5770 r5763.2.length c5771) [] rfl (by kernel_rfl) ⟨by kernel_rfl, rfl⟩ M8774)
                                  · intro g8690 f8691
                                    intro v18_ hb18_
                                    obtain ⟨rfl, _⟩ := hb18_
                                    intro v20_ hb20_
                                    obtain ⟨rfl, _⟩ := hb20_
                                    intro R w8777 M8778
                                    refine W_run 1 [(253, .int .i64 (r5763.2.length : Int))] w8777 (by kernel_rfl) ?_
                                    exact W_nil (ob_end (.int .i64 (r5763.2.length : Int)) [] rfl (by kernel_rfl) ⟨by kernel_rfl, rfl⟩ M8778)
                                  · intro g8690 f8691
                                    intro v18_ hb18_
                                    obtain ⟨rfl, _⟩ := hb18_
                                    intro v19_ hb19_
                                    obtain ⟨rfl, _⟩ := hb19_
                                    intro v21_ hb21_
                                    obtain ⟨rfl, _⟩ := hb21_
                                    intro R w8781 M8782
                                    refine W_run 1 [(254, .bool (decide (r5784.2.1 < (r5763.2.length : Int))))] w8781 (by kernel_rfl) ?_
                                    exact W_nil (ob_end (.bool (decide (r5784.2.1 < (r5763.2.length : Int)))) [] rfl (by kernel_rfl) ⟨by kernel_rfl, rfl⟩ M8782)
                                  · intro g8690 f8691
                                    intro v18_ hb18_
                                    obtain ⟨rfl, _⟩ := hb18_
                                    intro v22_ hb22_
                                    obtain ⟨rfl, _⟩ := hb22_
                                    intro R w8785 M8786
                                    refine W_run 1 [(255, .bool (decide (r5784.2.1 < (r5763.2.length : Int))))] w8785 (by kernel_rfl) ?_
                                    refine W_conv 255 (.bool (decide (r5784.2.1 < (r5763.2.length : Int)))) (.bool false) (by kernel_rfl) (by rw [hc8567]) ?_
                                    exact W_nil (ob_end (.bool false) [] rfl (by kernel_rfl) ⟨by kernel_rfl, rfl⟩ M8786)
                                  · intro g8690 f8691
                                    intro v23_ hb23_
                                    obtain ⟨rfl, _⟩ := hb23_
                                    intro R w8789 M8790
                                    refine W_run 1 [(256, undef)] w8789 (by kernel_rfl) ?_
                                    exact W_nil (ob_end (undef) [] rfl (by kernel_rfl) ⟨by kernel_rfl, rfl⟩ M8790)
                                  · intro g8690 f8691
                                    intro v23_ hb23_
                                    obtain ⟨rfl, _⟩ := hb23_
                                    intro R w8793 M8794
                                    refine W_run 1 [(257, undef)] w8793 (by kernel_rfl) ?_
                                    exact W_nil (ob_end (undef) [] rfl (by kernel_rfl) ⟨by kernel_rfl, rfl⟩ M8794)
                                  · intro g8690 f8691
                                    intro v23_ hb23_
                                    obtain ⟨rfl, _⟩ := hb23_
                                    intro R w8797 M8798
                                    refine W_run 1 [(258, undef)] w8797 (by kernel_rfl) ?_
                                    exact W_nil (ob_end (undef) [] rfl (by kernel_rfl) ⟨by kernel_rfl, rfl⟩ M8798)
                                  · intro g8690 f8691
                                    intro v23_ hb23_
                                    obtain ⟨rfl, _⟩ := hb23_
                                    intro R w8801 M8802
                                    refine W_run 1 [(259, undef)] w8801 (by kernel_rfl) ?_
                                    exact W_nil (ob_end (undef) [] rfl (by kernel_rfl) ⟨by kernel_rfl, rfl⟩ M8802)
                                  · intro g8690 f8691
                                    intro v23_ hb23_
                                    obtain ⟨rfl, _⟩ := hb23_
                                    intro R w8805 M8806
                                    refine W_run 1 [(260, undef)] w8805 (by kernel_rfl) ?_
                                    exact W_nil (ob_end (undef) [] rfl (by kernel_rfl) ⟨by kernel_rfl, rfl⟩ M8806)
                                  · intro g8690 f8691
                                    intro v14_ hb14_
                                    obtain ⟨p8437, c8438, rfl, ho8440⟩ := hb14_
                                    intro v18_ hb18_
                                    obtain ⟨rfl, _⟩ := hb18_
                                    intro v23_ hb23_
                                    obtain ⟨rfl, _⟩ := hb23_
                                    intro v25_ hb25_
                                    obtain ⟨rfl, _⟩ := hb25_
                                    intro v28_ hb28_
                                    obtain ⟨rfl, _⟩ := hb28_
                                    intro w8809 M8810
                                    have M8811 : Mem [] w w8809 [sg5767, sg5772, [(b5779, .cells ⟨[.slice p5765 r5763.1.Items.length c5766, .int .i64 r5763.1.Head, .int .i64 r5763.1.Tail]⟩ 27 (0, 0))], sg5788, [(b5795, .cells ⟨[.slice p5786 r5784.1.Items.length c5787, .int .i64 r5784.1.Head, .int .i64 r5784.1.Tail]⟩ 27 (0, 0))], sg7515, sg7524, (g8690 14)] := M8810
                                    refine W_run 3 [(0, .slice p4356 x4354.length c4357), (263, .bool false)] w8809 (by kernel_rfl) ?_
                                    refine W_nil ?_
                                    obtain rfl := Option.some.inj hm
                                    exact N_meet fun a ha => ⟨M8811.pick [] (by kernel_rfl), ha.sub (by kernel_rfl)⟩
                        · intro a8814 w8812 ⟨M8813, hS8815⟩
                          refine N_use hS8815 ?_
                          have hm := hm8171
                          refine N_then ?_
                          rcases gx_bif hm with ⟨hc8816, hm⟩ | ⟨hc8816, hm⟩
                          · refine G_cond_t (b := o8169) hc8816 (by kernel_rfl) ?_
                            refine G_seq ?_
                            refine G_region ?_
                            refine W_run 1 [(2, .bool false)] w8812 (by kernel_rfl) ?_
                            refine W_nil ?_
                            refine N_then ?_
                            refine G_ret ?_
                            refine N_meet_ret ?_
                            obtain rfl := Option.some.inj hm
                            have hm := hm7508
                            simp only [Sum.elim_inr] at hm
                            refine N_then_ret ?_
                            obtain rfl := Option.some.inj hm
                            refine N_ret [.bool false] (RVs_cons (RV_tmp (by kernel_rfl)) RVs_nil) ?_
                            exact ⟨rfl, M8813.pick [] (by kernel_rfl)⟩
                          · refine G_cond_f (b := o8169) hc8816 (by kernel_rfl) ?_
                            refine G_skip ?_
                            obtain rfl := Option.some.inj hm
                            exact N_meet fun a ha => ⟨_, rfl, M8813.pick [] (by kernel_rfl), ha.sub (by kernel_rfl)⟩
                      · refine G_cond_f (b := r5784.2.2) hc7510 (by kernel_rfl) ?_
                        refine G_skip ?_
                        obtain rfl := Option.some.inj hm
                        exact N_meet fun a ha => ⟨_, rfl, M6195.pick [] (by kernel_rfl), ha.sub (by kernel_rfl)⟩
                    · intro a8819 w8817 ⟨o7506, hout_, M8818, hS8820⟩
                      refine N_use hS8820 ?_
                      subst hout_
                      have hm := hm7508
                      simp only [Sum.elim_inl] at hm
                      refine N_then ?_
                      refine G_seq ?_
                      refine G_region ?_
                      refine W_run 1 [(265, .slice p4356 x4354.length c4357)] w8817 (by kernel_rfl) ?_
                      obtain ⟨r8859, hr8859, hm⟩ := gx_bind hm
                      refine W_call 51 #[.slice p4356 x4354.length c4357] (by kernel_rfl) (by kernel_rfl) ?_
                      refine (c_s_DrawTakeWords w8817 x4354 p4356 c4357 (h4358.mem0 M8818) hr8859).mono ?_
                      rintro e_ w8865 ⟨p8861, c8862, sg8863, rfl, ho8864, K8866⟩
                      have M8867 := M8818.call K8866
                      refine ⟨_, rfl, ?_⟩
                      refine W_run 3 [(267, .agg #[.slice p8861 r8859.1.Items.length c8862, .int .i64 r8859.1.Head, .int .i64 r8859.1.Tail]), (268, .int .i64 r8859.2)] w8865 (by kernel_rfl) ?_
                      refine W_new (fun b => .pointer (some ⟨b, 0, none⟩)) (.cells ⟨[.slice none 0 0, .int .i64 0, .int .i64 0]⟩ 27 (0, 0)) M8867 rfl (by kernel_rfl) (by kernel_rfl) ?_
                      intro b8870 w8871 M8872
                      refine W_store _ _ _ true 3 b8870 0 [.slice none 0 0, .int .i64 0, .int .i64 0] 27 (.agg #[.slice p8861 r8859.1.Items.length c8862, .int .i64 r8859.1.Head, .int .i64 r8859.1.Tail]) 1 [.slice p8861 r8859.1.Items.length c8862, .int .i64 r8859.1.Head, .int .i64 r8859.1.Tail] M8872 (by kernel_rfl) rfl (by kernel_rfl) (by kernel_rfl) (by kernel_rfl) (by kernel_rfl) (by kernel_rfl) (by kernel_rfl) (by kernel_rfl) (by kernel_rfl) ?_
                      intro w8873 M8874
                      refine W_run 1 [(36, .pointer (some ⟨b8870, 0, none⟩)), (37, .int .i64 r8859.2)] w8873 (by kernel_rfl) ?_
                      refine W_nil ?_
                      refine N_then ?_
                      refine G_seq ?_
                      refine G_region ?_
                      refine W_val (.agg #[.slice p8861 r8859.1.Items.length c8862, .int .i64 r8859.1.Head, .int .i64 r8859.1.Tail]) w8873 (by kernel_rfl) (E_load (e := 27) (fr := (0, 0)) _ _ true 3 b8870 0 [.slice p8861 r8859.1.Items.length c8862, .int .i64 r8859.1.Head, .int .i64 r8859.1.Tail] (.agg #[.slice p8861 r8859.1.Items.length c8862, .int .i64 r8859.1.Head, .int .i64 r8859.1.Tail]) rfl (by kernel_rfl) (by kernel_rfl) (by kernel_rfl) (M8874.blk 1 (b := b8870) (o := .cells ⟨[.slice p8861 r8859.1.Items.length c8862, .int .i64 r8859.1.Head, .int .i64 r8859.1.Tail]⟩ 27 (0, 0)) (by kernel_rfl))) ?_
                      refine W_run 1 [(36, .pointer (some ⟨b8870, 0, none⟩)), (37, .int .i64 r8859.2), (270, .agg #[.slice p8861 r8859.1.Items.length c8862, .int .i64 r8859.1.Head, .int .i64 r8859.1.Tail]), (271, .int .i64 r8859.2)] w8873 (by kernel_rfl) ?_
                      obtain ⟨r8875, hr8875, hm⟩ := gx_bind hm
                      refine W_call 31 #[.agg #[.slice p8861 r8859.1.Items.length c8862, .int .i64 r8859.1.Head, .int .i64 r8859.1.Tail], .int .i64 r8859.2] (by kernel_rfl) (by kernel_rfl) ?_
                      refine (c_i_TakeWords w8873 r8859.1 p8861 c8862 (ho8864.rd M8874 0 (by kernel_rfl)) r8859.2 hr8875).mono ?_
                      rintro e_ w8886 ⟨p8877, c8878, sg8879, p8882, c8883, sg8884, rfl, ho8880, ho8885, K8887⟩
                      have M8888 := M8874.call K8887
                      refine ⟨_, rfl, ?_⟩
                      refine W_run 4 [(36, .pointer (some ⟨b8870, 0, none⟩)), (37, .int .i64 r8859.2), (273, .agg #[.slice p8877 r8875.1.Items.length c8878, .int .i64 r8875.1.Head, .int .i64 r8875.1.Tail]), (274, .slice p8882 r8875.2.1.length c8883), (275, .bool r8875.2.2)] w8886 (by kernel_rfl) ?_
                      refine W_new (fun b => .pointer (some ⟨b, 0, none⟩)) (.cells ⟨[.slice none 0 0, .int .i64 0, .int .i64 0]⟩ 27 (0, 0)) M8888 rfl (by kernel_rfl) (by kernel_rfl) ?_
                      intro b8891 w8892 M8893
                      refine W_store _ _ _ true 3 b8891 0 [.slice none 0 0, .int .i64 0, .int .i64 0] 27 (.agg #[.slice p8877 r8875.1.Items.length c8878, .int .i64 r8875.1.Head, .int .i64 r8875.1.Tail]) 4 [.slice p8877 r8875.1.Items.length c8878, .int .i64 r8875.1.Head, .int .i64 r8875.1.Tail] M8893 (by kernel_rfl) rfl (by kernel_rfl) (by kernel_rfl) (by kernel_rfl) (by kernel_rfl) (by kernel_rfl) (by kernel_rfl) (by kernel_rfl) (by kernel_rfl) ?_
                      intro w8894 M8895
                      refine W_run 2 [(36, .pointer (some ⟨b8870, 0, none⟩)), (37, .int .i64 r8859.2), (38, .pointer (some ⟨b8891, 0, none⟩)), (39, .slice p8882 r8875.2.1.length c8883), (40, .bool r8875.2.2)] w8894 (by kernel_rfl) ?_
                      refine W_nil ?_
                      refine N_then ?_
                      refine G_seq ?_
                      refine G_seq ?_
                      refine G_region ?_
                      refine W_val (.agg #[.slice p8861 r8859.1.Items.length c8862, .int .i64 r8859.1.Head, .int .i64 r8859.1.Tail]) w8894 (by kernel_rfl) (E_load (e := 27) (fr := (0, 0)) _ _ true 3 b8870 0 [.slice p8861 r8859.1.Items.length c8862, .int .i64 r8859.1.Head, .int .i64 r8859.1.Tail] (.agg #[.slice p8861 r8859.1.Items.length c8862, .int .i64 r8859.1.Head, .int .i64 r8859.1.Tail]) rfl (by kernel_rfl) (by kernel_rfl) (by kernel_rfl) (M8895.blk 1 (b := b8870) (o := .cells ⟨[.slice p8861 r8859.1.Items.length c8862, .int .i64 r8859.1.Head, .int .i64 r8859.1.Tail]⟩ 27 (0, 0)) (by kernel_rfl))) ?_
                      refine W_run 1 [(36, .pointer (some ⟨b8870, 0, none⟩)), (38, .pointer (some ⟨b8891, 0, none⟩)), (39, .slice p8882 r8875.2.1.length c8883), (40, .bool r8875.2.2), (277, .agg #[.slice p8861 r8859.1.Items.length c8862, .int .i64 r8859.1.Head, .int .i64 r8859.1.Tail]), (278, .int .i64 r8859.2)] w8894 (by kernel_rfl) ?_
                      obtain ⟨r9202, hr9202, hm⟩ := gx_bind hm
                      refine W_call 30 #[.agg #[.slice p8861 r8859.1.Items.length c8862, .int .i64 r8859.1.Head, .int .i64 r8859.1.Tail], .int .i64 r8859.2] (by kernel_rfl) (by kernel_rfl) ?_
                      refine (c_s_TakeWords w8894 r8859.1 p8861 c8862 (ho8864.rd M8895 0 (by kernel_rfl)) r8859.2 hr9202).mono ?_
                      rintro e_ w9213 ⟨p9204, c9205, sg9206, p9209, c9210, sg9211, rfl, ho9207, ho9212, K9214⟩
                      have M9215 := M8895.call K9214
                      refine ⟨_, rfl, ?_⟩
                      refine W_run 4 [(36, .pointer (some ⟨b8870, 0, none⟩)), (38, .pointer (some ⟨b8891, 0, none⟩)), (39, .slice p8882 r8875.2.1.length c8883), (40, .bool r8875.2.2), (280, .agg #[.slice p9204 r9202.1.Items.length c9205, .int .i64 r9202.1.Head, .int .i64 r9202.1.Tail]), (281, .slice p9209 r9202.2.1.length c9210), (282, .bool r9202.2.2)] w9213 (by kernel_rfl) ?_
                      refine W_new (fun b => .pointer (some ⟨b, 0, none⟩)) (.cells ⟨[.slice none 0 0, .int .i64 0, .int .i64 0]⟩ 27 (0, 0)) M9215 rfl (by kernel_rfl) (by kernel_rfl) ?_
                      intro b9218 w9219 M9220
                      refine W_store _ _ _ true 3 b9218 0 [.slice none 0 0, .int .i64 0, .int .i64 0] 27 (.agg #[.slice p9204 r9202.1.Items.length c9205, .int .i64 r9202.1.Head, .int .i64 r9202.1.Tail]) 7 [.slice p9204 r9202.1.Items.length c9205, .int .i64 r9202.1.Head, .int .i64 r9202.1.Tail] M9220 (by kernel_rfl) rfl (by kernel_rfl) (by kernel_rfl) (by kernel_rfl) (by kernel_rfl) (by kernel_rfl) (by kernel_rfl) (by kernel_rfl) (by kernel_rfl) ?_
                      intro w9221 M9222
                      refine W_run 2 [(36, .pointer (some ⟨b8870, 0, none⟩)), (38, .pointer (some ⟨b8891, 0, none⟩)), (39, .slice p8882 r8875.2.1.length c8883), (40, .bool r8875.2.2), (41, .pointer (some ⟨b9218, 0, none⟩)), (42, .slice p9209 r9202.2.1.length c9210), (43, .bool r9202.2.2)] w9221 (by kernel_rfl) ?_
                      refine W_nil ?_
                      refine N_then ?_
                      refine G_seq ?_
                      obtain ⟨o9233, ho9234, hm9235⟩ := gx_bind hm
                      refine G_meet (fun a w' => Mem [] w w' [sg8863, [(b8870, .cells ⟨[.slice p8861 r8859.1.Items.length c8862, .int .i64 r8859.1.Head, .int .i64 r8859.1.Tail]⟩ 27 (0, 0))], sg8879, sg8884, [(b8891, .cells ⟨[.slice p8877 r8875.1.Items.length c8878, .int .i64 r8875.1.Head, .int .i64 r8875.1.Tail]⟩ 27 (0, 0))]] ∧ Sat Try.f13.ntmps [(36, .pointer (some ⟨b8870, 0, none⟩)), (38, .pointer (some ⟨b8891, 0, none⟩)), (39, .slice p8882 r8875.2.1.length c8883), (40, .bool r8875.2.2), (297, .bool o9233)] a) ?_ ?_
                      · have hm := ho9234
                        refine G_region ?_
                        refine W_run 4 [(36, .pointer (some ⟨b8870, 0, none⟩)), (38, .pointer (some ⟨b8891, 0, none⟩)), (39, .slice p8882 r8875.2.1.length c8883), (40, .bool r8875.2.2), (41, .pointer (some ⟨b9218, 0, none⟩)), (42, .slice p9209 r9202.2.1.length c9210), (286, .bool (!(r8875.2.2 == r9202.2.2)))] w9221 (by kernel_rfl) ?_
                        rcases gx_bif hm with ⟨hc9236, hm⟩ | ⟨hc9236, hm⟩
                        · refine W_known 286 true (by kernel_rfl) hc9236 ?_
                          refine W_run 11 [(36, .pointer (some ⟨b8870, 0, none⟩)), (38, .pointer (some ⟨b8891, 0, none⟩)), (39, .slice p8882 r8875.2.1.length c8883), (40, .bool r8875.2.2), (297, .bool true)] w9221 (by kernel_rfl) ?_
                          refine W_nil ?_
                          obtain rfl := Option.some.inj hm
                          exact N_meet fun a ha => ⟨M9222.pick [0, 1, 2, 3, 4] (by kernel_rfl), ha.sub (by kernel_rfl)⟩
                        · refine W_known 286 false (by kernel_rfl) hc9236 ?_
                          refine W_run 2 [(36, .pointer (some ⟨b8870, 0, none⟩)), (38, .pointer (some ⟨b8891, 0, none⟩)), (39, .slice p8882 r8875.2.1.length c8883), (40, .bool r8875.2.2), (41, .pointer (some ⟨b9218, 0, none⟩)), (286, .bool false), (287, .slice p8882 r8875.2.1.length c8883), (288, .slice p9209 r9202.2.1.length c9210)] w9221 (by kernel_rfl) ?_
                          obtain ⟨r9237, hr9237, hm⟩ := gx_bind hm
                          refine W_call 45 #[.slice p8882 r8875.2.1.length c8883, .slice p9209 r9202.2.1.length c9210] (by kernel_rfl) (by kernel_rfl) ?_
                          refine (c_l_vInts w9221 r8875.2.1 p8882 c8883 (ho8885.rd M9222 3 (by kernel_rfl)) r9202.2.1 p9209 c9210 (ho9212.rd M9222 6 (by kernel_rfl)) hr9237).mono ?_
                          rintro e_ w9238 ⟨rfl, K9239⟩
                          have M9240 := M9222.call0 K9239
                          refine ⟨_, rfl, ?_⟩
                          refine W_run 3 [(36, .pointer (some ⟨b8870, 0, none⟩)), (38, .pointer (some ⟨b8891, 0, none⟩)), (39, .slice p8882 r8875.2.1.length c8883), (40, .bool r8875.2.2), (41, .pointer (some ⟨b9218, 0, none⟩)), (292, .bool (!r9237))] w9238 (by kernel_rfl) ?_
                          rcases gx_bif hm with ⟨hc9241, hm⟩ | ⟨hc9241, hm⟩
                          · refine W_known 292 true (by kernel_rfl) hc9241 ?_
                            refine W_run 5 [(36, .pointer (some ⟨b8870, 0, none⟩)), (38, .pointer (some ⟨b8891, 0, none⟩)), (39, .slice p8882 r8875.2.1.length c8883), (40, .bool r8875.2.2), (297, .bool true)] w9238 (by kernel_rfl) ?_
                            refine W_nil ?_
                            obtain rfl := Option.some.inj hm
                            exact N_meet fun a ha => ⟨M9240.pick [0, 1, 2, 3, 4] (by kernel_rfl), ha.sub (by kernel_rfl)⟩
                          · refine W_known 292 false (by kernel_rfl) hc9241 ?_
                            refine W_val (.agg #[.slice p8877 r8875.1.Items.length c8878, .int .i64 r8875.1.Head, .int .i64 r8875.1.Tail]) w9238 (by kernel_rfl) (E_load (e := 27) (fr := (0, 0)) _ _ true 3 b8891 0 [.slice p8877 r8875.1.Items.length c8878, .int .i64 r8875.1.Head, .int .i64 r8875.1.Tail] (.agg #[.slice p8877 r8875.1.Items.length c8878, .int .i64 r8875.1.Head, .int .i64 r8875.1.Tail]) rfl (by kernel_rfl) (by kernel_rfl) (by kernel_rfl) (M9240.blk 4 (b := b8891) (o := .cells ⟨[.slice p8877 r8875.1.Items.length c8878, .int .i64 r8875.1.Head, .int .i64 r8875.1.Tail]⟩ 27 (0, 0)) (by kernel_rfl))) ?_
                            refine W_val (.agg #[.slice p9204 r9202.1.Items.length c9205, .int .i64 r9202.1.Head, .int .i64 r9202.1.Tail]) w9238 (by kernel_rfl) (E_load (e := 27) (fr := (0, 0)) _ _ true 3 b9218 0 [.slice p9204 r9202.1.Items.length c9205, .int .i64 r9202.1.Head, .int .i64 r9202.1.Tail] (.agg #[.slice p9204 r9202.1.Items.length c9205, .int .i64 r9202.1.Head, .int .i64 r9202.1.Tail]) rfl (by kernel_rfl) (by kernel_rfl) (by kernel_rfl) (M9240.blk 7 (b := b9218) (o := .cells ⟨[.slice p9204 r9202.1.Items.length c9205, .int .i64 r9202.1.Head, .int .i64 r9202.1.Tail]⟩ 27 (0, 0)) (by kernel_rfl))) ?_
                            obtain ⟨r9242, hr9242, hm⟩ := gx_bind hm
                            refine W_call 44 #[.agg #[.slice p8877 r8875.1.Items.length c8878, .int .i64 r8875.1.Head, .int .i64 r8875.1.Tail], .agg #[.slice p9204 r9202.1.Items.length c9205, .int .i64 r9202.1.Head, .int .i64 r9202.1.Tail]] (by kernel_rfl) (by kernel_rfl) ?_
                            refine (c_l_vRing w9238 r8875.1 p8877 c8878 (ho8880.rd M9240 2 (by kernel_rfl)) r9202.1 p9204 c9205 (ho9207.rd M9240 5 (by kernel_rfl)) hr9242).mono ?_
                            rintro e_ w9243 ⟨rfl, K9244⟩
                            have M9245 := M9240.call0 K9244
                            refine ⟨_, rfl, ?_⟩
                            refine W_run 2 [(36, .pointer (some ⟨b8870, 0, none⟩)), (38, .pointer (some ⟨b8891, 0, none⟩)), (39, .slice p8882 r8875.2.1.length c8883), (40, .bool r8875.2.2), (297, .bool (!r9242))] w9243 (by kernel_rfl) ?_
                            refine W_nil ?_
                            obtain rfl := Option.some.inj hm
                            exact N_meet fun a ha => ⟨M9245.pick [0, 1, 2, 3, 4] (by kernel_rfl), ha.sub (by kernel_rfl)⟩
                      · intro a9248 w9246 ⟨M9247, hS9249⟩
                        refine N_use hS9249 ?_
                        have hm := hm9235
                        refine N_then ?_
                        rcases gx_bif hm with ⟨hc9250, hm⟩ | ⟨hc9250, hm⟩
                        · refine G_cond_t (b := o9233) hc9250 (by kernel_rfl) ?_
                          refine G_seq ?_
                          refine G_region ?_
                          refine W_run 1 [(2, .bool false)] w9246 (by kernel_rfl) ?_
                          refine W_nil ?_
                          refine N_then ?_
                          refine G_ret ?_
                          refine N_then_ret ?_
                          obtain rfl := Option.some.inj hm
                          refine N_ret [.bool false] (RVs_cons (RV_tmp (by kernel_rfl)) RVs_nil) ?_
                          exact ⟨rfl, M9247.pick [] (by kernel_rfl)⟩
                        · refine G_cond_f (b := o9233) hc9250 (by kernel_rfl) ?_
                          refine G_skip ?_
                          refine N_then ?_
                          refine G_seq ?_
                          refine G_seq ?_
                          refine G_region ?_
                          refine W_run 1 [(36, .pointer (some ⟨b8870, 0, none⟩)), (38, .pointer (some ⟨b8891, 0, none⟩)), (39, .slice p8882 r8875.2.1.length c8883), (298, .bool r8875.2.2)] w9246 (by kernel_rfl) ?_
                          refine W_nil ?_
                          refine N_then ?_
                          rcases gx_bif hm with ⟨hc9251, hm⟩ | ⟨hc9251, hm⟩
                          · refine G_cond_t (b := r8875.2.2) hc9251 (by kernel_rfl) ?_
                            refine G_seq ?_
                            refine G_region ?_
                            refine W_val (.agg #[.slice p8861 r8859.1.Items.length c8862, .int .i64 r8859.1.Head, .int .i64 r8859.1.Tail]) w9246 (by kernel_rfl) (E_load (e := 27) (fr := (0, 0)) _ _ true 3 b8870 0 [.slice p8861 r8859.1.Items.length c8862, .int .i64 r8859.1.Head, .int .i64 r8859.1.Tail] (.agg #[.slice p8861 r8859.1.Items.length c8862, .int .i64 r8859.1.Head, .int .i64 r8859.1.Tail]) rfl (by kernel_rfl) (by kernel_rfl) (by kernel_rfl) (M9247.blk 1 (b := b8870) (o := .cells ⟨[.slice p8861 r8859.1.Items.length c8862, .int .i64 r8859.1.Head, .int .i64 r8859.1.Tail]⟩ 27 (0, 0)) (by kernel_rfl))) ?_
                            obtain ⟨r9252, hr9252, hm⟩ := gx_bind hm
                            refine W_call 26 #[.agg #[.slice p8861 r8859.1.Items.length c8862, .int .i64 r8859.1.Head, .int .i64 r8859.1.Tail]] (by kernel_rfl) (by kernel_rfl) ?_
                            refine (c_i_RingWords w9246 r8859.1 p8861 c8862 (ho8864.rd M9247 0 (by kernel_rfl)) hr9252).mono ?_
                            rintro e_ w9258 ⟨p9254, c9255, sg9256, rfl, ho9257, K9259⟩
                            have M9260 := M9247.call K9259
                            refine ⟨_, rfl, ?_⟩
                            refine W_run 5 [(38, .pointer (some ⟨b8891, 0, none⟩)), (39, .slice p8882 r8875.2.1.length c8883), (44, .slice p9254 r9252.1.length c9255), (45, .bool r9252.2)] w9258 (by kernel_rfl) ?_
                            refine W_nil ?_
                            refine N_then ?_
                            refine G_seq ?_
                            refine G_region ?_
                            refine W_val (.agg #[.slice p8877 r8875.1.Items.length c8878, .int .i64 r8875.1.Head, .int .i64 r8875.1.Tail]) w9258 (by kernel_rfl) (E_load (e := 27) (fr := (0, 0)) _ _ true 3 b8891 0 [.slice p8877 r8875.1.Items.length c8878, .int .i64 r8875.1.Head, .int .i64 r8875.1.Tail] (.agg #[.slice p8877 r8875.1.Items.length c8878, .int .i64 r8875.1.Head, .int .i64 r8875.1.Tail]) rfl (by kernel_rfl) (by kernel_rfl) (by kernel_rfl) (M9260.blk 4 (b := b8891) (o := .cells ⟨[.slice p8877 r8875.1.Items.length c8878, .int .i64 r8875.1.Head, .int .i64 r8875.1.Tail]⟩ 27 (0, 0)) (by kernel_rfl))) ?_
                            obtain ⟨r9261, hr9261, hm⟩ := gx_bind hm
                            refine W_call 26 #[.agg #[.slice p8877 r8875.1.Items.length c8878, .int .i64 r8875.1.Head, .int .i64 r8875.1.Tail]] (by kernel_rfl) (by kernel_rfl) ?_
                            refine (c_i_RingWords w9258 r8875.1 p8877 c8878 (ho8880.rd M9260 2 (by kernel_rfl)) hr9261).mono ?_
                            rintro e_ w9267 ⟨p9263, c9264, sg9265, rfl, ho9266, K9268⟩
                            have M9269 := M9260.call K9268
                            refine ⟨_, rfl, ?_⟩
                            refine W_run 5 [(39, .slice p8882 r8875.2.1.length c8883), (44, .slice p9254 r9252.1.length c9255), (45, .bool r9252.2), (46, .slice p9263 r9261.1.length c9264), (47, .bool r9261.2)] w9267 (by kernel_rfl) ?_
                            refine W_nil ?_
                            refine N_then ?_
                            refine G_seq ?_
                            obtain ⟨o9299, ho9300, hm9301⟩ := gx_bind hm
                            refine G_meet (fun a w' => Mem [] w w' [] ∧ Sat Try.f13.ntmps [(2, .bool o9299)] a) ?_ ?_
                            · have hm := ho9300
                              refine G_region ?_
                              refine W_run 2 [(39, .slice p8882 r8875.2.1.length c8883), (44, .slice p9254 r9252.1.length c9255), (46, .slice p9263 r9261.1.length c9264), (47, .bool r9261.2), (310, .bool r9252.2)] w9267 (by kernel_rfl) ?_
                              rcases gx_bif hm with ⟨hc9302, hm⟩ | ⟨hc9302, hm⟩
                              · refine W_known 310 true (by kernel_rfl) hc9302 ?_
                                refine W_run 3 [(39, .slice p8882 r8875.2.1.length c8883), (44, .slice p9254 r9252.1.length c9255), (46, .slice p9263 r9261.1.length c9264), (313, .bool r9261.2)] w9267 (by kernel_rfl) ?_
                                rcases gx_bif hm with ⟨hc9303, hm⟩ | ⟨hc9303, hm⟩
                                · refine W_known 313 true (by kernel_rfl) hc9303 ?_
                                  refine W_lit (E := encI) ([] : List Int) 0 [] 3 M9269 (by kernel_rfl) (by kernel_rfl) (by kernel_rfl) (by kernel_rfl) (by kernel_rfl) ?_
                                  intro p9304 c9305 sg9306 w9307 ho9308 M9309
                                  refine W_run 1 [(44, .slice p9254 r9252.1.length c9255), (46, .slice p9263 r9261.1.length c9264), (313, .bool true), (314, .slice p9304 ([] : List Int).length c9305), (315, .slice p8882 r8875.2.1.length c8883)] w9307 (by kernel_rfl) ?_
                                  obtain ⟨ap9311, hap9311, hm⟩ := gx_bind hm
                                  refine W_append (E := encI) _ _ _ 8 [.int .i64 0] 7 c8883 M9309 ho9308 (by kernel_rfl) (by kernel_rfl) (by kernel_rfl) rfl (by kernel_rfl) (by kernel_rfl) (by kernel_rfl) (by kernel_rfl) (by kernel_rfl) (by kernel_rfl) (ho8885.rd M9309 3 (by kernel_rfl)) hap9311 ?_
                                  intro p9312 c9313 sg9314 w9315 ho9316 M9317
                                  refine W_run 1 [(44, .slice p9254 r9252.1.length c9255), (313, .bool true), (316, .slice p9312 ap9311.length c9313), (317, .slice p9263 r9261.1.length c9264)] w9315 (by kernel_rfl) ?_
                                  obtain ⟨ap9319, hap9319, hm⟩ := gx_bind hm
                                  refine W_append (E := encI) _ _ _ 8 [.int .i64 0] 7 c9264 M9317 ho9316 (by kernel_rfl) (by kernel_rfl) (by kernel_rfl) rfl (by kernel_rfl) (by kernel_rfl) (by kernel_rfl) (by kernel_rfl) (by kernel_rfl) (by kernel_rfl) (ho9266.rd M9317 6 (by kernel_rfl)) hap9319 ?_
                                  intro p9320 c9321 sg9322 w9323 ho9324 M9325
                                  refine W_run 1 [(313, .bool true), (318, .slice p9320 ap9319.length c9321), (319, .slice p9254 r9252.1.length c9255)] w9323 (by kernel_rfl) ?_
                                  obtain ⟨r9327, hr9327, hm⟩ := gx_bind hm
                                  refine W_call 45 #[.slice p9320 ap9319.length c9321, .slice p9254 r9252.1.length c9255] (by kernel_rfl) (by kernel_rfl) ?_
                                  refine (c_l_vInts w9323 ap9319 p9320 c9321 (ho9324.rd M9325 7 (by kernel_rfl)) r9252.1 p9254 c9255 (ho9257.rd M9325 5 (by kernel_rfl)) hr9327).mono ?_
                                  rintro e_ w9328 ⟨rfl, K9329⟩
                                  have M9330 := M9325.call0 K9329
                                  refine ⟨_, rfl, ?_⟩
                                  refine W_run 2 [(2, .bool r9327)] w9328 (by kernel_rfl) ?_
                                  refine W_nil ?_
                                  obtain rfl := Option.some.inj hm
                                  exact N_meet fun a ha => ⟨M9330.pick [] (by kernel_rfl), ha.sub (by kernel_rfl)⟩
                                · refine W_known 313 false (by kernel_rfl) hc9303 ?_
                                  refine W_run 9 [(2, .bool false)] w9267 (by kernel_rfl) ?_
                                  refine W_nil ?_
                                  obtain rfl := Option.some.inj hm
                                  exact N_meet fun a ha => ⟨M9269.pick [] (by kernel_rfl), ha.sub (by kernel_rfl)⟩
                              · refine W_known 310 false (by kernel_rfl) hc9302 ?_
                                refine W_run 12 [(2, .bool false)] w9267 (by kernel_rfl) ?_
                                refine W_nil ?_
                                obtain rfl := Option.some.inj hm
                                exact N_meet fun a ha => ⟨M9269.pick [] (by kernel_rfl), ha.sub (by kernel_rfl)⟩
                            · intro a9333 w9331 ⟨M9332, hS9334⟩
                              refine N_use hS9334 ?_
                              have hm := hm9301
                              refine N_then ?_
                              refine G_ret ?_
                              refine N_then_ret ?_
                              obtain rfl := Option.some.inj hm
                              refine N_ret [.bool o9299] (RVs_cons (RV_tmp (by kernel_rfl)) RVs_nil) ?_
                              exact ⟨rfl, M9332.pick [] (by kernel_rfl)⟩
                          · refine G_cond_f (b := r8875.2.2) hc9251 (by kernel_rfl) ?_
                            refine G_skip ?_
                            refine N_then ?_
                            refine G_seq ?_
                            refine G_region ?_
                            refine W_run 1 [(2, .bool true)] w9246 (by kernel_rfl) ?_
                            refine W_nil ?_
                            refine N_then ?_
                            refine G_ret ?_
                            obtain rfl := Option.some.inj hm
                            refine N_ret [.bool true] (RVs_cons (RV_tmp (by kernel_rfl)) RVs_nil) ?_
                            exact ⟨rfl, M9247.pick [] (by kernel_rfl)⟩
end Go.Proofs.Ytopnablbecepjaa
