/- The walks, printed by program: whenever the model gives r, the call returns r. Part 4. -/
import Derived.Test.YtopnablbecepjaaM
import Derived.Test.YtopnablbecepjaaProg
import Derived.Test.YtopnablbecepjaaC3
set_option linter.unusedVariables false
set_option maxRecDepth 100000
set_option maxHeartbeats 4000000
namespace Go.Proofs.Ytopnablbecepjaa
open Go.Gx
theorem c_i_PutWords (w : World) (x4432 : Ring) (p4434 : Option Addr) (c4435 : Nat) (h4436 : rdS encI w x4432.Items p4434 c4435) (x4437 : List Int) (p4439 : Option Addr) (c4440 : Nat) (h4441 : rdS encI w x4437 p4439 c4440) {r : Ring × Int × Bool} (hm : M.i_PutWords x4432 x4437 = some r) :
    Calls Try.prog 40 #[.agg #[.slice p4434 x4432.Items.length c4435, .int .i64 x4432.Head, .int .i64 x4432.Tail], .slice p4439 x4437.length c4440] w fun e w' => ∃ (p4443 : Option Addr) (c4444 : Nat) (sg4445 : Seg), e = .returned (.tuple #[.agg #[.slice p4443 r.1.Items.length c4444, .int .i64 r.1.Head, .int .i64 r.1.Tail], .int .i64 r.2.1, .bool r.2.2]) ∧ ownS encI r.1.Items p4443 c4444 sg4445 ∧ Mem [] w w' [sg4445] := by
  unfold M.i_PutWords at hm
  refine C_enter Try.func40 rfl (by kernel_rfl) ?_
  have M0 := Mem.refl [] w
  refine G_seq ?_
  refine G_region ?_
  refine W_new (fun b => .pointer (some ⟨b, 0, none⟩)) (.cells ⟨[.slice p4434 x4432.Items.length c4435, .int .i64 x4432.Head, .int .i64 x4432.Tail]⟩ 27 (0, 0)) M0 rfl (by kernel_rfl) (by kernel_rfl) ?_
  intro b4447 w4448 M4449
  refine W_new (fun b => .pointer (some ⟨b, 0, none⟩)) (.cells ⟨[.slice none 0 0, .int .i64 0, .int .i64 0]⟩ 27 (0, 0)) M4449 rfl (by kernel_rfl) (by kernel_rfl) ?_
  intro b4452 w4453 M4454
  refine W_run 2 [(1, .slice p4439 x4437.length c4440), (2, .pointer (some ⟨b4447, 0, none⟩)), (4, .pointer (some ⟨b4452, 0, none⟩))] w4453 (by kernel_rfl) ?_
  refine W_nil ?_
  refine N_then ?_
  refine G_seq ?_
  refine G_seq ?_
  obtain ⟨o4519, ho4520, hm4521⟩ := gx_bind hm
  refine G_meet (fun a w' => Mem [] w w' [[(b4447, .cells ⟨[.slice p4434 x4432.Items.length c4435, .int .i64 x4432.Head, .int .i64 x4432.Tail]⟩ 27 (0, 0))], [(b4452, .cells ⟨[.slice none 0 0, .int .i64 0, .int .i64 0]⟩ 27 (0, 0))]] ∧ Sat Try.f40.ntmps [(1, .slice p4439 x4437.length c4440), (2, .pointer (some ⟨b4447, 0, none⟩)), (4, .pointer (some ⟨b4452, 0, none⟩)), (14, .bool o4519)] a) ?_ ?_
  · have hm := ho4520
    refine G_region ?_
    refine W_val (.agg #[.slice p4434 x4432.Items.length c4435, .int .i64 x4432.Head, .int .i64 x4432.Tail]) w4453 (by kernel_rfl) (E_load (e := 27) (fr := (0, 0)) _ _ true 3 b4447 0 [.slice p4434 x4432.Items.length c4435, .int .i64 x4432.Head, .int .i64 x4432.Tail] (.agg #[.slice p4434 x4432.Items.length c4435, .int .i64 x4432.Head, .int .i64 x4432.Tail]) rfl (by kernel_rfl) (by kernel_rfl) (by kernel_rfl) (M4454.blk 0 (b := b4447) (o := .cells ⟨[.slice p4434 x4432.Items.length c4435, .int .i64 x4432.Head, .int .i64 x4432.Tail]⟩ 27 (0, 0)) (by kernel_rfl))) ?_
    obtain ⟨r4522, hr4522, hm⟩ := gx_bind hm
    refine W_call 24 #[.agg #[.slice p4434 x4432.Items.length c4435, .int .i64 x4432.Head, .int .i64 x4432.Tail]] (by kernel_rfl) (by kernel_rfl) ?_
    refine (c_i_IsRing w4453 x4432 p4434 c4435 (h4436.mem0 M4454) hr4522).mono ?_
    rintro e_ w4523 ⟨rfl, K4524⟩
    have M4525 := M4454.call0 K4524
    refine ⟨_, rfl, ?_⟩
    refine W_run 2 [(1, .slice p4439 x4437.length c4440), (2, .pointer (some ⟨b4447, 0, none⟩)), (4, .pointer (some ⟨b4452, 0, none⟩)), (11, .bool (!r4522))] w4523 (by kernel_rfl) ?_
    rcases gx_bif hm with ⟨hc4526, hm⟩ | ⟨hc4526, hm⟩
    · refine W_known 11 true (by kernel_rfl) hc4526 ?_
      refine W_run 3 [(1, .slice p4439 x4437.length c4440), (2, .pointer (some ⟨b4447, 0, none⟩)), (4, .pointer (some ⟨b4452, 0, none⟩)), (14, .bool true)] w4523 (by kernel_rfl) ?_
      refine W_nil ?_
      obtain rfl := Option.some.inj hm
      exact N_meet fun a ha => ⟨M4525.pick [0, 1] (by kernel_rfl), ha.sub (by kernel_rfl)⟩
    · refine W_known 11 false (by kernel_rfl) hc4526 ?_
      refine W_run 1 [(1, .slice p4439 x4437.length c4440), (2, .pointer (some ⟨b4447, 0, none⟩)), (4, .pointer (some ⟨b4452, 0, none⟩)), (11, .bool false), (12, .slice p4439 x4437.length c4440)] w4523 (by kernel_rfl) ?_
      obtain ⟨r4527, hr4527, hm⟩ := gx_bind hm
      refine W_call 68 #[.slice p4439 x4437.length c4440, .func (.func 69) #[] #[]] (by kernel_rfl) (by kernel_rfl) ?_
      refine (c_slices_ContainsFunc_68__i_PutWords_1 w4523 x4437 p4439 c4440 (h4441.mem0 M4525) hr4527).mono ?_
      rintro e_ w4528 ⟨rfl, K4529⟩
      have M4530 := M4525.call0 K4529
      refine ⟨_, rfl, ?_⟩
      refine W_run 1 [(1, .slice p4439 x4437.length c4440), (2, .pointer (some ⟨b4447, 0, none⟩)), (4, .pointer (some ⟨b4452, 0, none⟩)), (14, .bool r4527)] w4528 (by kernel_rfl) ?_
      refine W_nil ?_
      obtain rfl := Option.some.inj hm
      exact N_meet fun a ha => ⟨M4530.pick [0, 1] (by kernel_rfl), ha.sub (by kernel_rfl)⟩
  · intro a4533 w4531 ⟨M4532, hS4534⟩
    refine N_use hS4534 ?_
    have hm := hm4521
    refine N_then ?_
    rcases gx_bif hm with ⟨hc4535, hm⟩ | ⟨hc4535, hm⟩
    · refine G_cond_t (b := o4519) hc4535 (by kernel_rfl) ?_
      refine G_seq ?_
      refine G_region ?_
      refine W_run 1 [(4, .pointer (some ⟨b4452, 0, none⟩)), (15, .agg #[.slice none 0 0, .int .i64 0, .int .i64 0])] w4531 (by kernel_rfl) ?_
      refine W_store _ _ _ true 3 b4452 0 [.slice none 0 0, .int .i64 0, .int .i64 0] 27 (.agg #[.slice none 0 0, .int .i64 0, .int .i64 0]) 1 [.slice none 0 0, .int .i64 0, .int .i64 0] M4532 (by kernel_rfl) rfl (by kernel_rfl) (by kernel_rfl) (by kernel_rfl) (by kernel_rfl) (by kernel_rfl) (by kernel_rfl) (by kernel_rfl) (by kernel_rfl) ?_
      intro w4537 M4538
      refine W_run 2 [(4, .pointer (some ⟨b4452, 0, none⟩)), (5, .int .i64 0), (6, .bool false)] w4537 (by kernel_rfl) ?_
      refine W_nil ?_
      refine N_then ?_
      refine G_ret ?_
      refine N_then_ret ?_
      obtain rfl := Option.some.inj hm
      refine N_ret [.agg #[.slice none 0 0, .int .i64 0, .int .i64 0], .int .i64 0, .bool false] (RVs_cons (RV_cell (g := true) (k := 3) (b := b4452) (off := 0) (cs := [.slice none 0 0, .int .i64 0, .int .i64 0]) (e := 27) (fr := (0, 0)) (v := .agg #[.slice none 0 0, .int .i64 0, .int .i64 0]) (M4538.blk 1 (b := b4452) (o := .cells ⟨[.slice none 0 0, .int .i64 0, .int .i64 0]⟩ 27 (0, 0)) (by kernel_rfl)) (by kernel_rfl) (by kernel_rfl) (by kernel_rfl)) (RVs_cons (RV_tmp (by kernel_rfl)) (RVs_cons (RV_tmp (by kernel_rfl)) RVs_nil))) ?_
      exact ⟨none, 0, [], rfl, ownS_nil, M4538.pick [100000] (by kernel_rfl)⟩
    · refine G_cond_f (b := o4519) hc4535 (by kernel_rfl) ?_
      refine G_skip ?_
      refine N_then ?_
      refine G_seq ?_
      refine G_quiet (by kernel_rfl) (by kernel_rfl) M4532 ?_
      refine Z_runs [.slice p4439 x4437.length c4440, .int .i64 (x4437.length : Int), .pointer (some ⟨b4447, 0, none⟩)] [(1, .slice p4439 x4437.length c4440), (2, .pointer (some ⟨b4447, 0, none⟩)), (4, .pointer (some ⟨b4452, 0, none⟩)), (17, .int .i64 (x4437.length : Int)), (18, .pointer (some ⟨b4447, 0, none⟩))] (fun w_ => by kernel_rfl) (by kernel_rfl) ?_
      refine Z_val (.slice p4434 x4432.Items.length c4435) (by kernel_rfl) (fun w_ M_ => (E_load (e := 27) (fr := (0, 0)) _ _ false 1 b4447 0 [.slice p4434 x4432.Items.length c4435, .int .i64 x4432.Head, .int .i64 x4432.Tail] (.slice p4434 x4432.Items.length c4435) rfl (by kernel_rfl) (by kernel_rfl) (by kernel_rfl) (M_.blk 0 (b := b4447) (o := .cells ⟨[.slice p4434 x4432.Items.length c4435, .int .i64 x4432.Head, .int .i64 x4432.Tail]⟩ 27 (0, 0)) (by kernel_rfl)))) ?_
      refine Z_runs [.int .i64 (x4432.Items.length : Int)] [(1, .slice p4439 x4437.length c4440), (2, .pointer (some ⟨b4447, 0, none⟩)), (4, .pointer (some ⟨b4452, 0, none⟩)), (17, .int .i64 (x4437.length : Int)), (20, .int .i64 (x4432.Items.length : Int))] (fun w_ => by kernel_rfl) (by kernel_rfl) ?_
      refine Z_val (.agg #[.slice p4434 x4432.Items.length c4435, .int .i64 x4432.Head, .int .i64 x4432.Tail]) (by kernel_rfl) (fun w_ M_ => (E_load (e := 27) (fr := (0, 0)) _ _ true 3 b4447 0 [.slice p4434 x4432.Items.length c4435, .int .i64 x4432.Head, .int .i64 x4432.Tail] (.agg #[.slice p4434 x4432.Items.length c4435, .int .i64 x4432.Head, .int .i64 x4432.Tail]) rfl (by kernel_rfl) (by kernel_rfl) (by kernel_rfl) (M_.blk 0 (b := b4447) (o := .cells ⟨[.slice p4434 x4432.Items.length c4435, .int .i64 x4432.Head, .int .i64 x4432.Tail]⟩ 27 (0, 0)) (by kernel_rfl)))) ?_
      obtain ⟨r4539, hr4539, hm⟩ := gx_bind hm
      refine Z_call 59 #[.agg #[.slice p4434 x4432.Items.length c4435, .int .i64 x4432.Head, .int .i64 x4432.Tail]] (.int .i64 r4539) (by kernel_rfl) (fun w_ => by kernel_rfl) (fun w_ M_ => (c_i_Ring_count w_ x4432 p4434 c4435 (h4436.mem0 M_) hr4539).mono fun e w2_ h_ => ⟨h_.1, M_.call0 h_.2⟩) ?_
      refine Z_runs [.int .i64 (w64 ((x4432.Items.length : Int) - r4539)), .int .i64 (gxMin (x4437.length : Int) (w64 ((x4432.Items.length : Int) - r4539))), .int .i64 (gxMin (x4437.length : Int) (w64 ((x4432.Items.length : Int) - r4539)))] [(1, .slice p4439 x4437.length c4440), (2, .pointer (some ⟨b4447, 0, none⟩)), (4, .pointer (some ⟨b4452, 0, none⟩)), (7, .int .i64 (gxMin (x4437.length : Int) (w64 ((x4432.Items.length : Int) - r4539))))] (fun w_ => by kernel_rfl) (by kernel_rfl) ?_
      refine Z_end fun w4543 M4544 => ?_
      refine N_then ?_
      refine G_seq ?_
      obtain ⟨r4547, hr4547, hm⟩ := gx_bind hm
      obtain ⟨ys4553, hys4553, hm⟩ := gx_bind hm
      obtain ⟨ap4555, hap4555, hm⟩ := gx_bind hm
      obtain ⟨r4561, hr4561, hm⟩ := gx_bind hm
      have M4567 : Mem [] w w4543 ([[(b4447, .cells ⟨[.slice p4434 x4432.Items.length c4435, .int .i64 x4432.Head, .int .i64 x4432.Tail]⟩ 27 (0, 0))]] ++ (List.range 14).map (fun i => ([[], [], [], [], [], [], [], [], [], [], [], [], [], [(b4452, .cells ⟨[.slice none 0 0, .int .i64 0, .int .i64 0]⟩ 27 (0, 0))]] : List Seg).getD i [])) := M4544.pick [0, 300000, 300001, 300002, 300003, 300004, 300005, 300006, 300007, 300008, 300009, 300010, 300011, 300012, 1] (by kernel_rfl)
      refine G_sub [(1, .slice p4439 x4437.length c4440), (2, .pointer (some ⟨b4447, 0, none⟩)), (4, .pointer (some ⟨b4452, 0, none⟩)), (7, .int .i64 (gxMin (x4437.length : Int) (w64 ((x4432.Items.length : Int) - r4539))))] (by kernel_rfl) ?_
      refine G_dagL 14 [[], [0], [1], [], [3], [], [5], [], [], [7, 8], [6, 9], [2, 4, 10], [], []] [[], [], [], [], [], [], [], [], [], [], [6], [], [], []] [[], [], [], [], [], [], [], [], [], [], [], [10], [], []] [[], [], [], [], [], [], [], [], [], [], [], [], [], [11]] [[], [], [], [], [], [], [], [], [], [], [], [], [], [11]] [[], [], [], [], [], [], [], [], [], [], [], [], [], []] (fun i => ([[], [], [], [], [], [], [], [], [], [], [], [], [], [(b4452, .cells ⟨[.slice none 0 0, .int .i64 0, .int .i64 0]⟩ 27 (0, 0))]] : List Seg).getD i []) (fun i => ([fun f v s => v = (.pointer (some ⟨b4447, 0, none⟩) : Value) ∧ s = [], fun f v s => v = (.slice p4434 x4432.Items.length c4435 : Value) ∧ s = [], fun f v s => v = (.int .i64 (x4432.Items.length : Int) : Value) ∧ s = [], fun f v s => v = (.pointer (some ⟨b4447, 1, none⟩) : Value) ∧ s = [], fun f v s => v = (.int .i64 x4432.Head : Value) ∧ s = [], fun f v s => v = (.agg #[.slice p4434 x4432.Items.length c4435, .int .i64 x4432.Head, .int .i64 x4432.Tail] : Value) ∧ s = [], fun f v s => ∃ (p4549 : Option Addr) (c4550 : Nat), v = (.slice p4549 r4547.length c4550 : Value) ∧ ownS encI r4547 p4549 c4550 s, fun f v s => v = (.slice p4439 x4437.length c4440 : Value) ∧ s = [], fun f v s => v = (.int .i64 (gxMin (x4437.length : Int) (w64 ((x4432.Items.length : Int) - r4539))) : Value) ∧ s = [], fun f v s => v = (.slice (subP p4439 (0 : Int).toNat c4440 1) ys4553.length (c4440 - (0 : Int).toNat) : Value) ∧ s = [], fun f v s => ∃ (p4557 : Option Addr) (c4558 : Nat), v = (.slice p4557 ap4555.length c4558 : Value) ∧ ownS encI ap4555 p4557 c4558 s, fun f v s => ∃ (p4563 : Option Addr) (c4564 : Nat), v = (.agg #[.slice p4563 r4561.Items.length c4564, .int .i64 r4561.Head, .int .i64 r4561.Tail] : Value) ∧ ownS encI r4561.Items p4563 c4564 s, fun f v s => v = (.int .i64 (gxMin (x4437.length : Int) (w64 ((x4432.Items.length : Int) - r4539))) : Value) ∧ s = [], fun f v s => v = undef ∧ s = [(b4452, .cells ⟨[(atPath (f 11) [0]), .int .i64 r4561.Head, .int .i64 r4561.Tail]⟩ 27 (0, 0))]] : List ((Nat → Value) → Value → Seg → Prop)).getD i (fun _ _ _ => False)) (fun j f v => ∃ s, (fun i => ([fun f v s => v = (.pointer (some ⟨b4447, 0, none⟩) : Value) ∧ s = [], fun f v s => v = (.slice p4434 x4432.Items.length c4435 : Value) ∧ s = [], fun f v s => v = (.int .i64 (x4432.Items.length : Int) : Value) ∧ s = [], fun f v s => v = (.pointer (some ⟨b4447, 1, none⟩) : Value) ∧ s = [], fun f v s => v = (.int .i64 x4432.Head : Value) ∧ s = [], fun f v s => v = (.agg #[.slice p4434 x4432.Items.length c4435, .int .i64 x4432.Head, .int .i64 x4432.Tail] : Value) ∧ s = [], fun f v s => ∃ (p4549 : Option Addr) (c4550 : Nat), v = (.slice p4549 r4547.length c4550 : Value) ∧ ownS encI r4547 p4549 c4550 s, fun f v s => v = (.slice p4439 x4437.length c4440 : Value) ∧ s = [], fun f v s => v = (.int .i64 (gxMin (x4437.length : Int) (w64 ((x4432.Items.length : Int) - r4539))) : Value) ∧ s = [], fun f v s => v = (.slice (subP p4439 (0 : Int).toNat c4440 1) ys4553.length (c4440 - (0 : Int).toNat) : Value) ∧ s = [], fun f v s => ∃ (p4557 : Option Addr) (c4558 : Nat), v = (.slice p4557 ap4555.length c4558 : Value) ∧ ownS encI ap4555 p4557 c4558 s, fun f v s => ∃ (p4563 : Option Addr) (c4564 : Nat), v = (.agg #[.slice p4563 r4561.Items.length c4564, .int .i64 r4561.Head, .int .i64 r4561.Tail] : Value) ∧ ownS encI r4561.Items p4563 c4564 s, fun f v s => v = (.int .i64 (gxMin (x4437.length : Int) (w64 ((x4432.Items.length : Int) - r4539))) : Value) ∧ s = [], fun f v s => v = undef ∧ s = [(b4452, .cells ⟨[(atPath (f 11) [0]), .int .i64 r4561.Head, .int .i64 r4561.Tail]⟩ 27 (0, 0))]] : List ((Nat → Value) → Value → Seg → Prop)).getD i (fun _ _ _ => False)) j f v s) [] [10, 11, 12, 13] [10, 11, 13] (fun _ _ _ s h => ⟨s, h⟩) (by kernel_rfl) (by kernel_rfl) M4567 (by kernel_rfl) (by kernel_rfl) (by kernel_rfl) (by kernel_rfl) (allOb_cons ?_ (allOb_cons ?_ (allOb_cons ?_ (allOb_cons ?_ (allOb_cons ?_ (allOb_cons ?_ (allOb_cons ?_ (allOb_cons ?_ (allOb_cons ?_ (allOb_cons ?_ (allOb_cons ?_ (allOb_cons ?_ (allOb_cons ?_ (allOb_cons ?_ allOb_nil)))))))))))))) ?_
      · intro g4545 f4546
        intro R w4568 M4569
        refine W_run 1 [(25, .pointer (some ⟨b4447, 0, none⟩))] w4568 (by kernel_rfl) ?_
        exact W_nil (ob_end (.pointer (some ⟨b4447, 0, none⟩)) [] rfl (by kernel_rfl) ⟨by kernel_rfl, rfl⟩ M4569)
      · intro g4545 f4546
        intro v0_ hb0_
        obtain ⟨rfl, _⟩ := hb0_
        intro R w4572 M4573
        refine W_val (.slice p4434 x4432.Items.length c4435) w4572 (by kernel_rfl) (E_load (e := 27) (fr := (0, 0)) _ _ false 1 b4447 0 [.slice p4434 x4432.Items.length c4435, .int .i64 x4432.Head, .int .i64 x4432.Tail] (.slice p4434 x4432.Items.length c4435) rfl (by kernel_rfl) (by kernel_rfl) (by kernel_rfl) (M4573.blk 0 (b := b4447) (o := .cells ⟨[.slice p4434 x4432.Items.length c4435, .int .i64 x4432.Head, .int .i64 x4432.Tail]⟩ 27 (0, 0)) (by kernel_rfl))) ?_
        exact W_nil (ob_end (.slice p4434 x4432.Items.length c4435) [] rfl (by kernel_rfl) ⟨by kernel_rfl, rfl⟩ M4573)
      · intro g4545 f4546
        intro v1_ hb1_
        obtain ⟨rfl, _⟩ := hb1_
        intro R w4576 M4577
        refine W_run 1 [(27, .int .i64 (x4432.Items.length : Int))] w4576 (by kernel_rfl) ?_
        exact W_nil (ob_end (.int .i64 (x4432.Items.length : Int)) [] rfl (by kernel_rfl) ⟨by kernel_rfl, rfl⟩ M4577)
      · intro g4545 f4546
        intro R w4580 M4581
        refine W_run 1 [(28, .pointer (some ⟨b4447, 1, none⟩))] w4580 (by kernel_rfl) ?_
        exact W_nil (ob_end (.pointer (some ⟨b4447, 1, none⟩)) [] rfl (by kernel_rfl) ⟨by kernel_rfl, rfl⟩ M4581)
      · intro g4545 f4546
        intro v3_ hb3_
        obtain ⟨rfl, _⟩ := hb3_
        intro R w4584 M4585
        refine W_val (.int .i64 x4432.Head) w4584 (by kernel_rfl) (E_load (e := 27) (fr := (0, 0)) _ _ false 1 b4447 1 [.slice p4434 x4432.Items.length c4435, .int .i64 x4432.Head, .int .i64 x4432.Tail] (.int .i64 x4432.Head) rfl (by kernel_rfl) (by kernel_rfl) (by kernel_rfl) (M4585.blk 0 (b := b4447) (o := .cells ⟨[.slice p4434 x4432.Items.length c4435, .int .i64 x4432.Head, .int .i64 x4432.Tail]⟩ 27 (0, 0)) (by kernel_rfl))) ?_
        exact W_nil (ob_end (.int .i64 x4432.Head) [] rfl (by kernel_rfl) ⟨by kernel_rfl, rfl⟩ M4585)
      · intro g4545 f4546
        intro R w4588 M4589
        refine W_val (.agg #[.slice p4434 x4432.Items.length c4435, .int .i64 x4432.Head, .int .i64 x4432.Tail]) w4588 (by kernel_rfl) (E_load (e := 27) (fr := (0, 0)) _ _ true 3 b4447 0 [.slice p4434 x4432.Items.length c4435, .int .i64 x4432.Head, .int .i64 x4432.Tail] (.agg #[.slice p4434 x4432.Items.length c4435, .int .i64 x4432.Head, .int .i64 x4432.Tail]) rfl (by kernel_rfl) (by kernel_rfl) (by kernel_rfl) (M4589.blk 0 (b := b4447) (o := .cells ⟨[.slice p4434 x4432.Items.length c4435, .int .i64 x4432.Head, .int .i64 x4432.Tail]⟩ 27 (0, 0)) (by kernel_rfl))) ?_
        exact W_nil (ob_end (.agg #[.slice p4434 x4432.Items.length c4435, .int .i64 x4432.Head, .int .i64 x4432.Tail]) [] rfl (by kernel_rfl) ⟨by kernel_rfl, rfl⟩ M4589)
      · intro g4545 f4546
        intro v5_ hb5_
        obtain ⟨rfl, _⟩ := hb5_
        intro R w4592 M4593
        refine W_call 61 #[.agg #[.slice p4434 x4432.Items.length c4435, .int .i64 x4432.Head, .int .i64 x4432.Tail]] (by kernel_rfl) (by kernel_rfl) ?_
        refine (c_i_ringWords w4592 x4432 p4434 c4435 (h4436.mem0 M4593) hr4547).mono ?_
        rintro e_ w4594 ⟨p4549, c4550, sg4551, rfl, ho4552, K4596⟩
        refine ⟨_, rfl, ?_⟩
        exact W_nil (ob_end (.slice p4549 r4547.length c4550) sg4551 rfl (by kernel_rfl) ⟨p4549, c4550, rfl, ho4552⟩ (Mem.callMid M4593 K4596))
      · intro g4545 f4546
        intro R w4597 M4598
        refine W_run 1 [(32, .slice p4439 x4437.length c4440)] w4597 (by kernel_rfl) ?_
        exact W_nil (ob_end (.slice p4439 x4437.length c4440) [] rfl (by kernel_rfl) ⟨by kernel_rfl, rfl⟩ M4598)
      · intro g4545 f4546
        intro R w4601 M4602
        refine W_run 1 [(33, .int .i64 (gxMin (x4437.length : Int) (w64 ((x4432.Items.length : Int) - r4539))))] w4601 (by kernel_rfl) ?_
        exact W_nil (ob_end (.int .i64 (gxMin (x4437.length : Int) (w64 ((x4432.Items.length : Int) - r4539)))) [] rfl (by kernel_rfl) ⟨by kernel_rfl, rfl⟩ M4602)
      · intro g4545 f4546
        intro v7_ hb7_
        obtain ⟨rfl, _⟩ := hb7_
        intro v8_ hb8_
        obtain ⟨rfl, _⟩ := hb8_
        intro R w4605 M4606
        refine W_val (.slice (subP p4439 (0 : Int).toNat c4440 1) ys4553.length (c4440 - (0 : Int).toNat)) w4605 (by kernel_rfl) (E_slice (E := encI) _ _ _ _ x4437.length 0 (gxMin (x4437.length : Int) (w64 ((x4432.Items.length : Int) - r4539))) rfl (by kernel_rfl) (Or.inl ⟨rfl, rfl⟩) (Or.inr ⟨_, rfl, by kernel_rfl⟩) (by kernel_rfl) (h4441.mem0 M4606) rfl hys4553) ?_
        exact W_nil (ob_end (.slice (subP p4439 (0 : Int).toNat c4440 1) ys4553.length (c4440 - (0 : Int).toNat)) [] rfl (by kernel_rfl) ⟨by kernel_rfl, rfl⟩ M4606)
      · intro g4545 f4546
        intro v6_ hb6_
        obtain ⟨p4549, c4550, rfl, ho4552⟩ := hb6_
        intro v9_ hb9_
        obtain ⟨rfl, _⟩ := hb9_
        intro R w4609 M4610
        refine W_append (E := encI) _ _ _ 8 [.int .i64 0] 2 (c4440 - (0 : Int).toNat) M4610 ho4552 (by kernel_rfl) (by kernel_rfl) (by kernel_rfl) rfl (by kernel_rfl) (by kernel_rfl) (by kernel_rfl) (by kernel_rfl) (by kernel_rfl) (by kernel_rfl) ((h4441.mem0 M4610).sliceM hys4553) hap4555 ?_
        intro p4557 c4558 sg4559 w4611 ho4560 M4612
        exact W_nil (ob_end (.slice p4557 ap4555.length c4558) sg4559 rfl (by kernel_rfl) ⟨p4557, c4558, rfl, ho4560⟩ (Mem.takeOver M4612))
      · intro g4545 f4546
        intro v2_ hb2_
        obtain ⟨rfl, _⟩ := hb2_
        intro v4_ hb4_
        obtain ⟨rfl, _⟩ := hb4_
        intro v10_ hb10_
        obtain ⟨p4557, c4558, rfl, ho4560⟩ := hb10_
        intro R w4613 M4614
        refine W_call 65 #[.int .i64 (x4432.Items.length : Int), .int .i64 x4432.Head, .slice p4557 ap4555.length c4558] (by kernel_rfl) (by kernel_rfl) ?_
        refine (c_i_ringOf w4613 (x4432.Items.length : Int) x4432.Head ap4555 p4557 c4558 (ho4560.rd M4614 2 (by kernel_rfl)) hr4561).mono ?_
        rintro e_ w4615 ⟨p4563, c4564, sg4565, rfl, ho4566, K4617⟩
        refine ⟨_, rfl, ?_⟩
        exact W_nil (ob_end (.agg #[.slice p4563 r4561.Items.length c4564, .int .i64 r4561.Head, .int .i64 r4561.Tail]) sg4565 rfl (by kernel_rfl) ⟨p4563, c4564, rfl, ho4566⟩ (Mem.callMid M4614 K4617))
      · intro g4545 f4546
        intro R w4618 M4619
        refine W_run 1 [(37, .int .i64 (gxMin (x4437.length : Int) (w64 ((x4432.Items.length : Int) - r4539))))] w4618 (by kernel_rfl) ?_
        exact W_nil (ob_end (.int .i64 (gxMin (x4437.length : Int) (w64 ((x4432.Items.length : Int) - r4539)))) [] rfl (by kernel_rfl) ⟨by kernel_rfl, rfl⟩ M4619)
      · intro g4545 f4546
        intro v11_ hb11_
        obtain ⟨_, p4563, c4564, rfl, _⟩ := hb11_
        intro R w4622 M4623
        refine W_store _ _ _ true 3 b4452 0 [.slice none 0 0, .int .i64 0, .int .i64 0] 27 (.agg #[.slice p4563 r4561.Items.length c4564, .int .i64 r4561.Head, .int .i64 r4561.Tail]) 1 [.slice p4563 r4561.Items.length c4564, .int .i64 r4561.Head, .int .i64 r4561.Tail] M4623 (by kernel_rfl) rfl (by kernel_rfl) (by kernel_rfl) (by kernel_rfl) (by kernel_rfl) (by kernel_rfl) (by kernel_rfl) (by kernel_rfl) (by kernel_rfl) ?_
        intro w4624 M4625
        exact W_nil (ob_none [(b4452, .cells ⟨[.slice p4563 r4561.Items.length c4564, .int .i64 r4561.Head, .int .i64 r4561.Tail]⟩ 27 (0, 0))] rfl ⟨rfl, by kernel_rfl⟩ M4625)
      · intro g4545 f4546
        intro v10_ hb10_
        obtain ⟨p4557, c4558, rfl, ho4560⟩ := hb10_
        intro v11_ hb11_
        obtain ⟨p4563, c4564, rfl, ho4566⟩ := hb11_
        intro v12_ hb12_
        obtain ⟨rfl, _⟩ := hb12_
        intro v13_ hb13_
        obtain ⟨rfl, hs13_⟩ := hb13_
        replace hs13_ := hs13_.trans (show _ = [(b4452, .cells ⟨[.slice p4563 r4561.Items.length c4564, .int .i64 r4561.Head, .int .i64 r4561.Tail]⟩ 27 (0, 0))] by kernel_rfl)
        intro w4626 M4627
        have M4628 : Mem [] w w4626 [[(b4447, .cells ⟨[.slice p4434 x4432.Items.length c4435, .int .i64 x4432.Head, .int .i64 x4432.Tail]⟩ 27 (0, 0))], (g4545 10), (g4545 11), (g4545 13)] := M4627
        rw [hs13_] at M4628
        refine W_run 2 [(4, .pointer (some ⟨b4452, 0, none⟩)), (5, .int .i64 (gxMin (x4437.length : Int) (w64 ((x4432.Items.length : Int) - r4539)))), (6, .bool true)] w4626 (by kernel_rfl) ?_
        refine W_nil ?_
        refine N_then ?_
        refine G_ret ?_
        obtain rfl := Option.some.inj hm
        refine N_ret [.agg #[.slice p4563 r4561.Items.length c4564, .int .i64 r4561.Head, .int .i64 r4561.Tail], .int .i64 (gxMin (x4437.length : Int) (w64 ((x4432.Items.length : Int) - r4539))), .bool true] (RVs_cons (RV_cell (g := true) (k := 3) (b := b4452) (off := 0) (cs := [.slice p4563 r4561.Items.length c4564, .int .i64 r4561.Head, .int .i64 r4561.Tail]) (e := 27) (fr := (0, 0)) (v := .agg #[.slice p4563 r4561.Items.length c4564, .int .i64 r4561.Head, .int .i64 r4561.Tail]) (M4628.blk 3 (b := b4452) (o := .cells ⟨[.slice p4563 r4561.Items.length c4564, .int .i64 r4561.Head, .int .i64 r4561.Tail]⟩ 27 (0, 0)) (by kernel_rfl)) (by kernel_rfl) (by kernel_rfl) (by kernel_rfl)) (RVs_cons (RV_tmp (by kernel_rfl)) (RVs_cons (RV_tmp (by kernel_rfl)) RVs_nil))) ?_
        exact ⟨p4563, c4564, (g4545 11), rfl, ho4566, M4628.pick [2] (by kernel_rfl)⟩
theorem c_i_PutWord (w : World) (x4406 : Ring) (p4408 : Option Addr) (c4409 : Nat) (h4410 : rdS encI w x4406.Items p4408 c4409) (x4411 : Int) {r : Ring × Bool} (hm : M.i_PutWord x4406 x4411 = some r) :
    Calls Try.prog 37 #[.agg #[.slice p4408 x4406.Items.length c4409, .int .i64 x4406.Head, .int .i64 x4406.Tail], .int .i64 x4411] w fun e w' => ∃ (p4413 : Option Addr) (c4414 : Nat) (sg4415 : Seg), e = .returned (.tuple #[.agg #[.slice p4413 r.1.Items.length c4414, .int .i64 r.1.Head, .int .i64 r.1.Tail], .bool r.2]) ∧ ownS encI r.1.Items p4413 c4414 sg4415 ∧ Mem [] w w' [sg4415] := by
  unfold M.i_PutWord at hm
  refine C_enter Try.func37 rfl (by kernel_rfl) ?_
  have M0 := Mem.refl [] w
  refine G_seq ?_
  refine G_region ?_
  refine W_new (fun b => .pointer (some ⟨b, 0, none⟩)) (.cells ⟨[.slice p4408 x4406.Items.length c4409, .int .i64 x4406.Head, .int .i64 x4406.Tail]⟩ 27 (0, 0)) M0 rfl (by kernel_rfl) (by kernel_rfl) ?_
  intro b4417 w4418 M4419
  refine W_new (fun b => .pointer (some ⟨b, 0, none⟩)) (.cells ⟨[.slice none 0 0, .int .i64 0, .int .i64 0]⟩ 27 (0, 0)) M4419 rfl (by kernel_rfl) (by kernel_rfl) ?_
  intro b4422 w4423 M4424
  refine W_run 1 [(1, .int .i64 x4411), (2, .pointer (some ⟨b4417, 0, none⟩)), (4, .pointer (some ⟨b4422, 0, none⟩))] w4423 (by kernel_rfl) ?_
  refine W_nil ?_
  refine N_then ?_
  refine G_seq ?_
  refine G_region ?_
  refine W_val (.agg #[.slice p4408 x4406.Items.length c4409, .int .i64 x4406.Head, .int .i64 x4406.Tail]) w4423 (by kernel_rfl) (E_load (e := 27) (fr := (0, 0)) _ _ true 3 b4417 0 [.slice p4408 x4406.Items.length c4409, .int .i64 x4406.Head, .int .i64 x4406.Tail] (.agg #[.slice p4408 x4406.Items.length c4409, .int .i64 x4406.Head, .int .i64 x4406.Tail]) rfl (by kernel_rfl) (by kernel_rfl) (by kernel_rfl) (M4424.blk 0 (b := b4417) (o := .cells ⟨[.slice p4408 x4406.Items.length c4409, .int .i64 x4406.Head, .int .i64 x4406.Tail]⟩ 27 (0, 0)) (by kernel_rfl))) ?_
  refine W_run 1 [(4, .pointer (some ⟨b4422, 0, none⟩)), (10, .agg #[.slice p4408 x4406.Items.length c4409, .int .i64 x4406.Head, .int .i64 x4406.Tail]), (11, .int .i64 x4411)] w4423 (by kernel_rfl) ?_
  refine W_lit (E := encI) [x4411] 1 [.int .i64 x4411] 3 M4424 (by kernel_rfl) (by kernel_rfl) (by kernel_rfl) (by kernel_rfl) (by kernel_rfl) ?_
  intro p4425 c4426 sg4427 w4428 ho4429 M4430
  obtain ⟨r4629, hr4629, hm⟩ := gx_bind hm
  refine W_call 40 #[.agg #[.slice p4408 x4406.Items.length c4409, .int .i64 x4406.Head, .int .i64 x4406.Tail], .slice p4425 [x4411].length c4426] (by kernel_rfl) (by kernel_rfl) ?_
  refine (c_i_PutWords w4428 x4406 p4408 c4409 (h4410.mem0 M4430) [x4411] p4425 c4426 (ho4429.rd M4430 2 (by kernel_rfl)) hr4629).mono ?_
  rintro e_ w4635 ⟨p4631, c4632, sg4633, rfl, ho4634, K4636⟩
  have M4637 := M4430.call K4636
  refine ⟨_, rfl, ?_⟩
  refine W_run 4 [(4, .pointer (some ⟨b4422, 0, none⟩)), (14, .agg #[.slice p4631 r4629.1.Items.length c4632, .int .i64 r4629.1.Head, .int .i64 r4629.1.Tail]), (15, .int .i64 r4629.2.1), (16, .bool r4629.2.2)] w4635 (by kernel_rfl) ?_
  refine W_new (fun b => .pointer (some ⟨b, 0, none⟩)) (.cells ⟨[.slice none 0 0, .int .i64 0, .int .i64 0]⟩ 27 (0, 0)) M4637 rfl (by kernel_rfl) (by kernel_rfl) ?_
  intro b4640 w4641 M4642
  refine W_store _ _ _ true 3 b4640 0 [.slice none 0 0, .int .i64 0, .int .i64 0] 27 (.agg #[.slice p4631 r4629.1.Items.length c4632, .int .i64 r4629.1.Head, .int .i64 r4629.1.Tail]) 4 [.slice p4631 r4629.1.Items.length c4632, .int .i64 r4629.1.Head, .int .i64 r4629.1.Tail] M4642 (by kernel_rfl) rfl (by kernel_rfl) (by kernel_rfl) (by kernel_rfl) (by kernel_rfl) (by kernel_rfl) (by kernel_rfl) (by kernel_rfl) (by kernel_rfl) ?_
  intro w4643 M4644
  refine W_run 2 [(4, .pointer (some ⟨b4422, 0, none⟩)), (6, .pointer (some ⟨b4640, 0, none⟩)), (7, .int .i64 r4629.2.1), (8, .bool r4629.2.2)] w4643 (by kernel_rfl) ?_
  refine W_nil ?_
  refine N_then ?_
  refine G_seq ?_
  refine G_seq ?_
  obtain ⟨o4646, ho4647, hm4648⟩ := gx_bind hm
  refine G_meet (fun a w' => Mem [] w w' [[(b4422, .cells ⟨[.slice none 0 0, .int .i64 0, .int .i64 0]⟩ 27 (0, 0))], sg4633, [(b4640, .cells ⟨[.slice p4631 r4629.1.Items.length c4632, .int .i64 r4629.1.Head, .int .i64 r4629.1.Tail]⟩ 27 (0, 0))]] ∧ Sat Try.f37.ntmps [(4, .pointer (some ⟨b4422, 0, none⟩)), (6, .pointer (some ⟨b4640, 0, none⟩)), (22, .bool o4646)] a) ?_ ?_
  · have hm := ho4647
    refine G_region ?_
    refine W_run 3 [(4, .pointer (some ⟨b4422, 0, none⟩)), (6, .pointer (some ⟨b4640, 0, none⟩)), (7, .int .i64 r4629.2.1), (19, .bool (!r4629.2.2))] w4643 (by kernel_rfl) ?_
    rcases gx_bif hm with ⟨hc4649, hm⟩ | ⟨hc4649, hm⟩
    · refine W_known 19 true (by kernel_rfl) hc4649 ?_
      refine W_run 3 [(4, .pointer (some ⟨b4422, 0, none⟩)), (6, .pointer (some ⟨b4640, 0, none⟩)), (22, .bool true)] w4643 (by kernel_rfl) ?_
      refine W_nil ?_
      obtain rfl := Option.some.inj hm
      exact N_meet fun a ha => ⟨M4644.pick [1, 3, 4] (by kernel_rfl), ha.sub (by kernel_rfl)⟩
    · refine W_known 19 false (by kernel_rfl) hc4649 ?_
      refine W_run 3 [(4, .pointer (some ⟨b4422, 0, none⟩)), (6, .pointer (some ⟨b4640, 0, none⟩)), (22, .bool (r4629.2.1 == 0))] w4643 (by kernel_rfl) ?_
      refine W_nil ?_
      obtain rfl := Option.some.inj hm
      exact N_meet fun a ha => ⟨M4644.pick [1, 3, 4] (by kernel_rfl), ha.sub (by kernel_rfl)⟩
  · intro a4652 w4650 ⟨M4651, hS4653⟩
    refine N_use hS4653 ?_
    have hm := hm4648
    refine N_then ?_
    rcases gx_bif hm with ⟨hc4654, hm⟩ | ⟨hc4654, hm⟩
    · refine G_cond_t (b := o4646) hc4654 (by kernel_rfl) ?_
      refine G_seq ?_
      refine G_region ?_
      refine W_run 1 [(4, .pointer (some ⟨b4422, 0, none⟩)), (23, .agg #[.slice none 0 0, .int .i64 0, .int .i64 0])] w4650 (by kernel_rfl) ?_
      refine W_store _ _ _ true 3 b4422 0 [.slice none 0 0, .int .i64 0, .int .i64 0] 27 (.agg #[.slice none 0 0, .int .i64 0, .int .i64 0]) 0 [.slice none 0 0, .int .i64 0, .int .i64 0] M4651 (by kernel_rfl) rfl (by kernel_rfl) (by kernel_rfl) (by kernel_rfl) (by kernel_rfl) (by kernel_rfl) (by kernel_rfl) (by kernel_rfl) (by kernel_rfl) ?_
      intro w4656 M4657
      refine W_run 1 [(4, .pointer (some ⟨b4422, 0, none⟩)), (5, .bool false)] w4656 (by kernel_rfl) ?_
      refine W_nil ?_
      refine N_then ?_
      refine G_ret ?_
      refine N_then_ret ?_
      obtain rfl := Option.some.inj hm
      refine N_ret [.agg #[.slice none 0 0, .int .i64 0, .int .i64 0], .bool false] (RVs_cons (RV_cell (g := true) (k := 3) (b := b4422) (off := 0) (cs := [.slice none 0 0, .int .i64 0, .int .i64 0]) (e := 27) (fr := (0, 0)) (v := .agg #[.slice none 0 0, .int .i64 0, .int .i64 0]) (M4657.blk 0 (b := b4422) (o := .cells ⟨[.slice none 0 0, .int .i64 0, .int .i64 0]⟩ 27 (0, 0)) (by kernel_rfl)) (by kernel_rfl) (by kernel_rfl) (by kernel_rfl)) (RVs_cons (RV_tmp (by kernel_rfl)) RVs_nil)) ?_
      exact ⟨none, 0, [], rfl, ownS_nil, M4657.pick [100000] (by kernel_rfl)⟩
    · refine G_cond_f (b := o4646) hc4654 (by kernel_rfl) ?_
      refine G_skip ?_
      refine N_then ?_
      refine G_seq ?_
      refine G_region ?_
      refine W_val (.agg #[.slice p4631 r4629.1.Items.length c4632, .int .i64 r4629.1.Head, .int .i64 r4629.1.Tail]) w4650 (by kernel_rfl) (E_load (e := 27) (fr := (0, 0)) _ _ true 3 b4640 0 [.slice p4631 r4629.1.Items.length c4632, .int .i64 r4629.1.Head, .int .i64 r4629.1.Tail] (.agg #[.slice p4631 r4629.1.Items.length c4632, .int .i64 r4629.1.Head, .int .i64 r4629.1.Tail]) rfl (by kernel_rfl) (by kernel_rfl) (by kernel_rfl) (M4651.blk 2 (b := b4640) (o := .cells ⟨[.slice p4631 r4629.1.Items.length c4632, .int .i64 r4629.1.Head, .int .i64 r4629.1.Tail]⟩ 27 (0, 0)) (by kernel_rfl))) ?_
      refine W_store _ _ _ true 3 b4422 0 [.slice none 0 0, .int .i64 0, .int .i64 0] 27 (.agg #[.slice p4631 r4629.1.Items.length c4632, .int .i64 r4629.1.Head, .int .i64 r4629.1.Tail]) 0 [.slice p4631 r4629.1.Items.length c4632, .int .i64 r4629.1.Head, .int .i64 r4629.1.Tail] M4651 (by kernel_rfl) rfl (by kernel_rfl) (by kernel_rfl) (by kernel_rfl) (by kernel_rfl) (by kernel_rfl) (by kernel_rfl) (by kernel_rfl) (by kernel_rfl) ?_
      intro w4658 M4659
      refine W_run 1 [(4, .pointer (some ⟨b4422, 0, none⟩)), (5, .bool true)] w4658 (by kernel_rfl) ?_
      refine W_nil ?_
      refine N_then ?_
      refine G_ret ?_
      obtain rfl := Option.some.inj hm
      refine N_ret [.agg #[.slice p4631 r4629.1.Items.length c4632, .int .i64 r4629.1.Head, .int .i64 r4629.1.Tail], .bool true] (RVs_cons (RV_cell (g := true) (k := 3) (b := b4422) (off := 0) (cs := [.slice p4631 r4629.1.Items.length c4632, .int .i64 r4629.1.Head, .int .i64 r4629.1.Tail]) (e := 27) (fr := (0, 0)) (v := .agg #[.slice p4631 r4629.1.Items.length c4632, .int .i64 r4629.1.Head, .int .i64 r4629.1.Tail]) (M4659.blk 0 (b := b4422) (o := .cells ⟨[.slice p4631 r4629.1.Items.length c4632, .int .i64 r4629.1.Head, .int .i64 r4629.1.Tail]⟩ 27 (0, 0)) (by kernel_rfl)) (by kernel_rfl) (by kernel_rfl) (by kernel_rfl)) (RVs_cons (RV_tmp (by kernel_rfl)) RVs_nil)) ?_
      exact ⟨p4631, c4632, sg4633, rfl, ho4634, M4659.pick [1] (by kernel_rfl)⟩
theorem c_l_FnExactPutWord (w : World) (x4280 : Ring) (p4282 : Option Addr) (c4283 : Nat) (h4284 : rdS encI w x4280.Items p4282 c4283) (x4285 : Int) {r : Bool} (hm : M.l_FnExactPutWord x4280 x4285 = some r) :
    Calls Try.prog 10 #[.agg #[.slice p4282 x4280.Items.length c4283, .int .i64 x4280.Head, .int .i64 x4280.Tail], .int .i64 x4285] w fun e w' => e = .returned (.bool r) ∧ Mem [] w w' [] := by
  unfold M.l_FnExactPutWord at hm
  refine C_enter Try.func10 rfl (by kernel_rfl) ?_
  have M0 := Mem.refl [] w
  refine G_seq ?_
  refine G_region ?_
  refine W_new (fun b => .pointer (some ⟨b, 0, none⟩)) (.cells ⟨[.slice p4282 x4280.Items.length c4283, .int .i64 x4280.Head, .int .i64 x4280.Tail]⟩ 33 (0, 0)) M0 rfl (by kernel_rfl) (by kernel_rfl) ?_
  intro b4287 w4288 M4289
  refine W_run 1 [(1, .int .i64 x4285), (2, .pointer (some ⟨b4287, 0, none⟩))] w4288 (by kernel_rfl) ?_
  refine W_nil ?_
  refine N_then ?_
  refine G_seq ?_
  refine G_region ?_
  refine W_run 1 [(1, .int .i64 x4285), (2, .pointer (some ⟨b4287, 0, none⟩)), (5, .int .i64 1048576)] w4288 (by kernel_rfl) ?_
  refine W_nil ?_
  refine N_then ?_
  refine G_seq ?_
  refine G_region ?_
  refine W_val (.agg #[.slice p4282 x4280.Items.length c4283, .int .i64 x4280.Head, .int .i64 x4280.Tail]) w4288 (by kernel_rfl) (E_load (e := 33) (fr := (0, 0)) _ _ true 3 b4287 0 [.slice p4282 x4280.Items.length c4283, .int .i64 x4280.Head, .int .i64 x4280.Tail] (.agg #[.slice p4282 x4280.Items.length c4283, .int .i64 x4280.Head, .int .i64 x4280.Tail]) rfl (by kernel_rfl) (by kernel_rfl) (by kernel_rfl) (M4289.blk 0 (b := b4287) (o := .cells ⟨[.slice p4282 x4280.Items.length c4283, .int .i64 x4280.Head, .int .i64 x4280.Tail]⟩ 33 (0, 0)) (by kernel_rfl))) ?_
  refine W_run 1 [(1, .int .i64 x4285), (2, .pointer (some ⟨b4287, 0, none⟩)), (5, .int .i64 1048576), (16, .agg #[.slice p4282 x4280.Items.length c4283, .int .i64 x4280.Head, .int .i64 x4280.Tail]), (17, .int .i64 1048576)] w4288 (by kernel_rfl) ?_
  obtain ⟨r4290, hr4290, hm⟩ := gx_bind hm
  refine W_call 21 #[.agg #[.slice p4282 x4280.Items.length c4283, .int .i64 x4280.Head, .int .i64 x4280.Tail], .int .i64 1048576] (by kernel_rfl) (by kernel_rfl) ?_
  refine (c_l_szRing w4288 x4280 p4282 c4283 (h4284.mem0 M4289) 1048576 hr4290).mono ?_
  rintro e_ w4291 ⟨rfl, K4292⟩
  have M4293 := M4289.call0 K4292
  refine ⟨_, rfl, ?_⟩
  refine W_run 1 [(1, .int .i64 x4285), (2, .pointer (some ⟨b4287, 0, none⟩)), (5, .int .i64 r4290)] w4291 (by kernel_rfl) ?_
  refine W_nil ?_
  refine N_then ?_
  refine G_seq ?_
  refine G_seq ?_
  refine G_region ?_
  refine W_run 2 [(1, .int .i64 x4285), (2, .pointer (some ⟨b4287, 0, none⟩)), (20, .bool (decide (r4290 < 0)))] w4291 (by kernel_rfl) ?_
  refine W_nil ?_
  refine N_then ?_
  rcases gx_bif hm with ⟨hc4294, hm⟩ | ⟨hc4294, hm⟩
  · refine G_cond_t (b := (decide (r4290 < 0))) hc4294 (by kernel_rfl) ?_
    refine G_seq ?_
    refine G_region ?_
    refine W_run 1 [(4, .bool true)] w4291 (by kernel_rfl) ?_
    refine W_nil ?_
    refine N_then ?_
    refine G_ret ?_
    refine N_then_ret ?_
    obtain rfl := Option.some.inj hm
    refine N_ret [.bool true] (RVs_cons (RV_tmp (by kernel_rfl)) RVs_nil) ?_
    exact ⟨rfl, M4293.pick [] (by kernel_rfl)⟩
  · refine G_cond_f (b := (decide (r4290 < 0))) hc4294 (by kernel_rfl) ?_
    refine G_skip ?_
    refine N_then ?_
    refine G_seq ?_
    refine G_region ?_
    refine W_val (.agg #[.slice p4282 x4280.Items.length c4283, .int .i64 x4280.Head, .int .i64 x4280.Tail]) w4291 (by kernel_rfl) (E_load (e := 33) (fr := (0, 0)) _ _ true 3 b4287 0 [.slice p4282 x4280.Items.length c4283, .int .i64 x4280.Head, .int .i64 x4280.Tail] (.agg #[.slice p4282 x4280.Items.length c4283, .int .i64 x4280.Head, .int .i64 x4280.Tail]) rfl (by kernel_rfl) (by kernel_rfl) (by kernel_rfl) (M4293.blk 0 (b := b4287) (o := .cells ⟨[.slice p4282 x4280.Items.length c4283, .int .i64 x4280.Head, .int .i64 x4280.Tail]⟩ 33 (0, 0)) (by kernel_rfl))) ?_
    obtain ⟨r4295, hr4295, hm⟩ := gx_bind hm
    refine W_call 23 #[.agg #[.slice p4282 x4280.Items.length c4283, .int .i64 x4280.Head, .int .i64 x4280.Tail]] (by kernel_rfl) (by kernel_rfl) ?_
    refine (c_l_toRing w4291 x4280 p4282 c4283 (h4284.mem0 M4293) hr4295).mono ?_
    rintro e_ w4301 ⟨p4297, c4298, sg4299, rfl, ho4300, K4302⟩
    have M4303 := M4293.call K4302
    refine ⟨_, rfl, ?_⟩
    refine W_run 1 [(1, .int .i64 x4285), (2, .pointer (some ⟨b4287, 0, none⟩)), (23, .agg #[.slice p4297 r4295.Items.length c4298, .int .i64 r4295.Head, .int .i64 r4295.Tail]), (24, .int .i64 x4285)] w4301 (by kernel_rfl) ?_
    obtain ⟨r4374, hr4374, hm⟩ := gx_bind hm
    refine W_call 36 #[.agg #[.slice p4297 r4295.Items.length c4298, .int .i64 r4295.Head, .int .i64 r4295.Tail], .int .i64 x4285] (by kernel_rfl) (by kernel_rfl) ?_
    refine (c_s_PutWord w4301 r4295 p4297 c4298 (ho4300.rd M4303 1 (by kernel_rfl)) x4285 hr4374).mono ?_
    rintro e_ w4380 ⟨p4376, c4377, sg4378, rfl, ho4379, K4381⟩
    have M4382 := M4303.call K4381
    refine ⟨_, rfl, ?_⟩
    refine W_run 3 [(1, .int .i64 x4285), (2, .pointer (some ⟨b4287, 0, none⟩)), (26, .agg #[.slice p4376 r4374.1.Items.length c4377, .int .i64 r4374.1.Head, .int .i64 r4374.1.Tail]), (27, .bool r4374.2)] w4380 (by kernel_rfl) ?_
    refine W_new (fun b => .pointer (some ⟨b, 0, none⟩)) (.cells ⟨[.slice none 0 0, .int .i64 0, .int .i64 0]⟩ 27 (0, 0)) M4382 rfl (by kernel_rfl) (by kernel_rfl) ?_
    intro b4385 w4386 M4387
    refine W_store _ _ _ true 3 b4385 0 [.slice none 0 0, .int .i64 0, .int .i64 0] 27 (.agg #[.slice p4376 r4374.1.Items.length c4377, .int .i64 r4374.1.Head, .int .i64 r4374.1.Tail]) 3 [.slice p4376 r4374.1.Items.length c4377, .int .i64 r4374.1.Head, .int .i64 r4374.1.Tail] M4387 (by kernel_rfl) rfl (by kernel_rfl) (by kernel_rfl) (by kernel_rfl) (by kernel_rfl) (by kernel_rfl) (by kernel_rfl) (by kernel_rfl) (by kernel_rfl) ?_
    intro w4388 M4389
    refine W_run 1 [(1, .int .i64 x4285), (2, .pointer (some ⟨b4287, 0, none⟩)), (6, .pointer (some ⟨b4385, 0, none⟩)), (7, .bool r4374.2)] w4388 (by kernel_rfl) ?_
    refine W_nil ?_
    refine N_then ?_
    refine G_seq ?_
    refine G_region ?_
    refine W_val (.agg #[.slice p4282 x4280.Items.length c4283, .int .i64 x4280.Head, .int .i64 x4280.Tail]) w4388 (by kernel_rfl) (E_load (e := 33) (fr := (0, 0)) _ _ true 3 b4287 0 [.slice p4282 x4280.Items.length c4283, .int .i64 x4280.Head, .int .i64 x4280.Tail] (.agg #[.slice p4282 x4280.Items.length c4283, .int .i64 x4280.Head, .int .i64 x4280.Tail]) rfl (by kernel_rfl) (by kernel_rfl) (by kernel_rfl) (M4389.blk 0 (b := b4287) (o := .cells ⟨[.slice p4282 x4280.Items.length c4283, .int .i64 x4280.Head, .int .i64 x4280.Tail]⟩ 33 (0, 0)) (by kernel_rfl))) ?_
    obtain ⟨r4390, hr4390, hm⟩ := gx_bind hm
    refine W_call 23 #[.agg #[.slice p4282 x4280.Items.length c4283, .int .i64 x4280.Head, .int .i64 x4280.Tail]] (by kernel_rfl) (by kernel_rfl) ?_
    refine (c_l_toRing w4388 x4280 p4282 c4283 (h4284.mem0 M4389) hr4390).mono ?_
    rintro e_ w4396 ⟨p4392, c4393, sg4394, rfl, ho4395, K4397⟩
    have M4398 := M4389.call K4397
    refine ⟨_, rfl, ?_⟩
    refine W_new (fun b => .pointer (some ⟨b, 0, none⟩)) (.cells ⟨[.slice none 0 0, .int .i64 0, .int .i64 0]⟩ 27 (0, 0)) M4398 rfl (by kernel_rfl) (by kernel_rfl) ?_
    intro b4401 w4402 M4403
    refine W_store _ _ _ true 3 b4401 0 [.slice none 0 0, .int .i64 0, .int .i64 0] 27 (.agg #[.slice p4392 r4390.Items.length c4393, .int .i64 r4390.Head, .int .i64 r4390.Tail]) 5 [.slice p4392 r4390.Items.length c4393, .int .i64 r4390.Head, .int .i64 r4390.Tail] M4403 (by kernel_rfl) rfl (by kernel_rfl) (by kernel_rfl) (by kernel_rfl) (by kernel_rfl) (by kernel_rfl) (by kernel_rfl) (by kernel_rfl) (by kernel_rfl) ?_
    intro w4404 M4405
    refine W_nil ?_
    refine N_then ?_
    refine G_seq ?_
    refine G_region ?_
    refine W_val (.agg #[.slice p4392 r4390.Items.length c4393, .int .i64 r4390.Head, .int .i64 r4390.Tail]) w4404 (by kernel_rfl) (E_load (e := 27) (fr := (0, 0)) _ _ true 3 b4401 0 [.slice p4392 r4390.Items.length c4393, .int .i64 r4390.Head, .int .i64 r4390.Tail] (.agg #[.slice p4392 r4390.Items.length c4393, .int .i64 r4390.Head, .int .i64 r4390.Tail]) rfl (by kernel_rfl) (by kernel_rfl) (by kernel_rfl) (M4405.blk 5 (b := b4401) (o := .cells ⟨[.slice p4392 r4390.Items.length c4393, .int .i64 r4390.Head, .int .i64 r4390.Tail]⟩ 27 (0, 0)) (by kernel_rfl))) ?_
    refine W_run 1 [(1, .int .i64 x4285), (2, .pointer (some ⟨b4287, 0, none⟩)), (6, .pointer (some ⟨b4385, 0, none⟩)), (7, .bool r4374.2), (8, .pointer (some ⟨b4401, 0, none⟩)), (31, .agg #[.slice p4392 r4390.Items.length c4393, .int .i64 r4390.Head, .int .i64 r4390.Tail]), (32, .int .i64 x4285)] w4404 (by kernel_rfl) ?_
    obtain ⟨r4660, hr4660, hm⟩ := gx_bind hm
    refine W_call 37 #[.agg #[.slice p4392 r4390.Items.length c4393, .int .i64 r4390.Head, .int .i64 r4390.Tail], .int .i64 x4285] (by kernel_rfl) (by kernel_rfl) ?_
    refine (c_i_PutWord w4404 r4390 p4392 c4393 (ho4395.rd M4405 4 (by kernel_rfl)) x4285 hr4660).mono ?_
    rintro e_ w4666 ⟨p4662, c4663, sg4664, rfl, ho4665, K4667⟩
    have M4668 := M4405.call K4667
    refine ⟨_, rfl, ?_⟩
    refine W_run 3 [(1, .int .i64 x4285), (2, .pointer (some ⟨b4287, 0, none⟩)), (6, .pointer (some ⟨b4385, 0, none⟩)), (7, .bool r4374.2), (8, .pointer (some ⟨b4401, 0, none⟩)), (34, .agg #[.slice p4662 r4660.1.Items.length c4663, .int .i64 r4660.1.Head, .int .i64 r4660.1.Tail]), (35, .bool r4660.2)] w4666 (by kernel_rfl) ?_
    refine W_new (fun b => .pointer (some ⟨b, 0, none⟩)) (.cells ⟨[.slice none 0 0, .int .i64 0, .int .i64 0]⟩ 27 (0, 0)) M4668 rfl (by kernel_rfl) (by kernel_rfl) ?_
    intro b4671 w4672 M4673
    refine W_store _ _ _ true 3 b4671 0 [.slice none 0 0, .int .i64 0, .int .i64 0] 27 (.agg #[.slice p4662 r4660.1.Items.length c4663, .int .i64 r4660.1.Head, .int .i64 r4660.1.Tail]) 7 [.slice p4662 r4660.1.Items.length c4663, .int .i64 r4660.1.Head, .int .i64 r4660.1.Tail] M4673 (by kernel_rfl) rfl (by kernel_rfl) (by kernel_rfl) (by kernel_rfl) (by kernel_rfl) (by kernel_rfl) (by kernel_rfl) (by kernel_rfl) (by kernel_rfl) ?_
    intro w4674 M4675
    refine W_run 1 [(1, .int .i64 x4285), (2, .pointer (some ⟨b4287, 0, none⟩)), (6, .pointer (some ⟨b4385, 0, none⟩)), (7, .bool r4374.2), (8, .pointer (some ⟨b4401, 0, none⟩)), (9, .pointer (some ⟨b4671, 0, none⟩)), (10, .bool r4660.2)] w4674 (by kernel_rfl) ?_
    refine W_nil ?_
    refine N_then ?_
    refine G_seq ?_
    refine G_seq ?_
    obtain ⟨o4681, ho4682, hm4683⟩ := gx_bind hm
    refine G_meet (fun a w' => Mem [] w w' [[(b4287, .cells ⟨[.slice p4282 x4280.Items.length c4283, .int .i64 x4280.Head, .int .i64 x4280.Tail]⟩ 33 (0, 0))], sg4378, [(b4385, .cells ⟨[.slice p4376 r4374.1.Items.length c4377, .int .i64 r4374.1.Head, .int .i64 r4374.1.Tail]⟩ 27 (0, 0))], sg4394, [(b4401, .cells ⟨[.slice p4392 r4390.Items.length c4393, .int .i64 r4390.Head, .int .i64 r4390.Tail]⟩ 27 (0, 0))], sg4664, [(b4671, .cells ⟨[.slice p4662 r4660.1.Items.length c4663, .int .i64 r4660.1.Head, .int .i64 r4660.1.Tail]⟩ 27 (0, 0))]] ∧ Sat Try.f10.ntmps [(1, .int .i64 x4285), (2, .pointer (some ⟨b4287, 0, none⟩)), (6, .pointer (some ⟨b4385, 0, none⟩)), (7, .bool r4374.2), (8, .pointer (some ⟨b4401, 0, none⟩)), (9, .pointer (some ⟨b4671, 0, none⟩)), (10, .bool r4660.2), (44, .bool o4681)] a) ?_ ?_
    · have hm := ho4682
      refine G_region ?_
      refine W_val (.agg #[.slice p4662 r4660.1.Items.length c4663, .int .i64 r4660.1.Head, .int .i64 r4660.1.Tail]) w4674 (by kernel_rfl) (E_load (e := 27) (fr := (0, 0)) _ _ true 3 b4671 0 [.slice p4662 r4660.1.Items.length c4663, .int .i64 r4660.1.Head, .int .i64 r4660.1.Tail] (.agg #[.slice p4662 r4660.1.Items.length c4663, .int .i64 r4660.1.Head, .int .i64 r4660.1.Tail]) rfl (by kernel_rfl) (by kernel_rfl) (by kernel_rfl) (M4675.blk 7 (b := b4671) (o := .cells ⟨[.slice p4662 r4660.1.Items.length c4663, .int .i64 r4660.1.Head, .int .i64 r4660.1.Tail]⟩ 27 (0, 0)) (by kernel_rfl))) ?_
      refine W_val (.agg #[.slice p4376 r4374.1.Items.length c4377, .int .i64 r4374.1.Head, .int .i64 r4374.1.Tail]) w4674 (by kernel_rfl) (E_load (e := 27) (fr := (0, 0)) _ _ true 3 b4385 0 [.slice p4376 r4374.1.Items.length c4377, .int .i64 r4374.1.Head, .int .i64 r4374.1.Tail] (.agg #[.slice p4376 r4374.1.Items.length c4377, .int .i64 r4374.1.Head, .int .i64 r4374.1.Tail]) rfl (by kernel_rfl) (by kernel_rfl) (by kernel_rfl) (M4675.blk 3 (b := b4385) (o := .cells ⟨[.slice p4376 r4374.1.Items.length c4377, .int .i64 r4374.1.Head, .int .i64 r4374.1.Tail]⟩ 27 (0, 0)) (by kernel_rfl))) ?_
      obtain ⟨r4684, hr4684, hm⟩ := gx_bind hm
      refine W_call 18 #[.agg #[.slice p4662 r4660.1.Items.length c4663, .int .i64 r4660.1.Head, .int .i64 r4660.1.Tail], .agg #[.slice p4376 r4374.1.Items.length c4377, .int .i64 r4374.1.Head, .int .i64 r4374.1.Tail]] (by kernel_rfl) (by kernel_rfl) ?_
      refine (c_l_eqRing w4674 r4660.1 p4662 c4663 (ho4665.rd M4675 6 (by kernel_rfl)) r4374.1 p4376 c4377 (ho4379.rd M4675 2 (by kernel_rfl)) hr4684).mono ?_
      rintro e_ w4685 ⟨rfl, K4686⟩
      have M4687 := M4675.call0 K4686
      refine ⟨_, rfl, ?_⟩
      refine W_run 2 [(1, .int .i64 x4285), (2, .pointer (some ⟨b4287, 0, none⟩)), (6, .pointer (some ⟨b4385, 0, none⟩)), (7, .bool r4374.2), (8, .pointer (some ⟨b4401, 0, none⟩)), (9, .pointer (some ⟨b4671, 0, none⟩)), (10, .bool r4660.2), (40, .bool (!r4684))] w4685 (by kernel_rfl) ?_
      rcases gx_bif hm with ⟨hc4688, hm⟩ | ⟨hc4688, hm⟩
      · refine W_known 40 true (by kernel_rfl) hc4688 ?_
        refine W_run 4 [(1, .int .i64 x4285), (2, .pointer (some ⟨b4287, 0, none⟩)), (6, .pointer (some ⟨b4385, 0, none⟩)), (7, .bool r4374.2), (8, .pointer (some ⟨b4401, 0, none⟩)), (9, .pointer (some ⟨b4671, 0, none⟩)), (10, .bool r4660.2), (44, .bool true)] w4685 (by kernel_rfl) ?_
        refine W_nil ?_
        obtain rfl := Option.some.inj hm
        exact N_meet fun a ha => ⟨M4687.pick [0, 2, 3, 4, 5, 6, 7] (by kernel_rfl), ha.sub (by kernel_rfl)⟩
      · refine W_known 40 false (by kernel_rfl) hc4688 ?_
        refine W_run 4 [(1, .int .i64 x4285), (2, .pointer (some ⟨b4287, 0, none⟩)), (6, .pointer (some ⟨b4385, 0, none⟩)), (7, .bool r4374.2), (8, .pointer (some ⟨b4401, 0, none⟩)), (9, .pointer (some ⟨b4671, 0, none⟩)), (10, .bool r4660.2), (44, .bool (!(r4660.2 == r4374.2)))] w4685 (by kernel_rfl) ?_
        refine W_nil ?_
        obtain rfl := Option.some.inj hm
        exact N_meet fun a ha => ⟨M4687.pick [0, 2, 3, 4, 5, 6, 7] (by kernel_rfl), ha.sub (by kernel_rfl)⟩
    · intro a4691 w4689 ⟨M4690, hS4692⟩
      refine N_use hS4692 ?_
      have hm := hm4683
      refine N_then ?_
      rcases gx_bif hm with ⟨hc4693, hm⟩ | ⟨hc4693, hm⟩
      · refine G_cond_t (b := o4681) hc4693 (by kernel_rfl) ?_
        refine G_seq ?_
        refine G_region ?_
        refine W_run 1 [(4, .bool false)] w4689 (by kernel_rfl) ?_
        refine W_nil ?_
        refine N_then ?_
        refine G_ret ?_
        refine N_then_ret ?_
        obtain rfl := Option.some.inj hm
        refine N_ret [.bool false] (RVs_cons (RV_tmp (by kernel_rfl)) RVs_nil) ?_
        exact ⟨rfl, M4690.pick [] (by kernel_rfl)⟩
      · refine G_cond_f (b := o4681) hc4693 (by kernel_rfl) ?_
        refine G_skip ?_
        refine N_then ?_
        refine G_seq ?_
        refine G_seq ?_
        obtain ⟨r4696, hr4696, hm⟩ := gx_bind hm
        refine G_sub [(1, .int .i64 x4285), (2, .pointer (some ⟨b4287, 0, none⟩)), (6, .pointer (some ⟨b4385, 0, none⟩)), (7, .bool r4374.2), (8, .pointer (some ⟨b4401, 0, none⟩)), (9, .pointer (some ⟨b4671, 0, none⟩)), (10, .bool r4660.2), (44, .bool o4681)] (by kernel_rfl) ?_
        refine G_dagL 3 [[], [], [1]] [[], [], []] [[], [], []] [[], [], []] [[], [], []] [[], [], []] (fun _ => []) (fun i => ([fun f v s => v = (.agg #[.slice p4392 r4390.Items.length c4393, .int .i64 r4390.Head, .int .i64 r4390.Tail] : Value) ∧ s = [], fun f v s => v = (.agg #[.slice p4282 x4280.Items.length c4283, .int .i64 x4280.Head, .int .i64 x4280.Tail] : Value) ∧ s = [], fun f v s => ∃ (p4698 : Option Addr) (c4699 : Nat), v = (.agg #[.slice p4698 r4696.Items.length c4699, .int .i64 r4696.Head, .int .i64 r4696.Tail] : Value) ∧ ownS encI r4696.Items p4698 c4699 s] : List ((Nat → Value) → Value → Seg → Prop)).getD i (fun _ _ _ => False)) (fun j f v => ∃ s, (fun i => ([fun f v s => v = (.agg #[.slice p4392 r4390.Items.length c4393, .int .i64 r4390.Head, .int .i64 r4390.Tail] : Value) ∧ s = [], fun f v s => v = (.agg #[.slice p4282 x4280.Items.length c4283, .int .i64 x4280.Head, .int .i64 x4280.Tail] : Value) ∧ s = [], fun f v s => ∃ (p4698 : Option Addr) (c4699 : Nat), v = (.agg #[.slice p4698 r4696.Items.length c4699, .int .i64 r4696.Head, .int .i64 r4696.Tail] : Value) ∧ ownS encI r4696.Items p4698 c4699 s] : List ((Nat → Value) → Value → Seg → Prop)).getD i (fun _ _ _ => False)) j f v s) [] [0, 2] [2] (fun _ _ _ s h => ⟨s, h⟩) (by kernel_rfl) (by kernel_rfl) (M4690.preNil 3) (by kernel_rfl) (by kernel_rfl) (by kernel_rfl) (by kernel_rfl) (allOb_cons ?_ (allOb_cons ?_ (allOb_cons ?_ allOb_nil))) ?_
        · intro g4694 f4695
          intro R w4702 M4703
          refine W_val (.agg #[.slice p4392 r4390.Items.length c4393, .int .i64 r4390.Head, .int .i64 r4390.Tail]) w4702 (by kernel_rfl) (E_load (e := 27) (fr := (0, 0)) _ _ true 3 b4401 0 [.slice p4392 r4390.Items.length c4393, .int .i64 r4390.Head, .int .i64 r4390.Tail] (.agg #[.slice p4392 r4390.Items.length c4393, .int .i64 r4390.Head, .int .i64 r4390.Tail]) rfl (by kernel_rfl) (by kernel_rfl) (by kernel_rfl) (M4703.blk 4 (b := b4401) (o := .cells ⟨[.slice p4392 r4390.Items.length c4393, .int .i64 r4390.Head, .int .i64 r4390.Tail]⟩ 27 (0, 0)) (by kernel_rfl))) ?_
          exact W_nil (ob_end (.agg #[.slice p4392 r4390.Items.length c4393, .int .i64 r4390.Head, .int .i64 r4390.Tail]) [] rfl (by kernel_rfl) ⟨by kernel_rfl, rfl⟩ M4703)
        · intro g4694 f4695
          intro R w4706 M4707
          refine W_val (.agg #[.slice p4282 x4280.Items.length c4283, .int .i64 x4280.Head, .int .i64 x4280.Tail]) w4706 (by kernel_rfl) (E_load (e := 33) (fr := (0, 0)) _ _ true 3 b4287 0 [.slice p4282 x4280.Items.length c4283, .int .i64 x4280.Head, .int .i64 x4280.Tail] (.agg #[.slice p4282 x4280.Items.length c4283, .int .i64 x4280.Head, .int .i64 x4280.Tail]) rfl (by kernel_rfl) (by kernel_rfl) (by kernel_rfl) (M4707.blk 0 (b := b4287) (o := .cells ⟨[.slice p4282 x4280.Items.length c4283, .int .i64 x4280.Head, .int .i64 x4280.Tail]⟩ 33 (0, 0)) (by kernel_rfl))) ?_
          exact W_nil (ob_end (.agg #[.slice p4282 x4280.Items.length c4283, .int .i64 x4280.Head, .int .i64 x4280.Tail]) [] rfl (by kernel_rfl) ⟨by kernel_rfl, rfl⟩ M4707)
        · intro g4694 f4695
          intro v1_ hb1_
          obtain ⟨rfl, _⟩ := hb1_
          intro R w4710 M4711
          refine W_call 23 #[.agg #[.slice p4282 x4280.Items.length c4283, .int .i64 x4280.Head, .int .i64 x4280.Tail]] (by kernel_rfl) (by kernel_rfl) ?_
          refine (c_l_toRing w4710 x4280 p4282 c4283 (h4284.mem0 M4711) hr4696).mono ?_
          rintro e_ w4712 ⟨p4698, c4699, sg4700, rfl, ho4701, K4714⟩
          refine ⟨_, rfl, ?_⟩
          exact W_nil (ob_end (.agg #[.slice p4698 r4696.Items.length c4699, .int .i64 r4696.Head, .int .i64 r4696.Tail]) sg4700 rfl (by kernel_rfl) ⟨p4698, c4699, rfl, ho4701⟩ (Mem.callMid M4711 K4714))
        · intro g4694 f4695
          intro v0_ hb0_
          obtain ⟨rfl, _⟩ := hb0_
          intro v2_ hb2_
          obtain ⟨p4698, c4699, rfl, ho4701⟩ := hb2_
          intro w4715 M4716
          have M4717 : Mem [] w w4715 [[(b4287, .cells ⟨[.slice p4282 x4280.Items.length c4283, .int .i64 x4280.Head, .int .i64 x4280.Tail]⟩ 33 (0, 0))], sg4378, [(b4385, .cells ⟨[.slice p4376 r4374.1.Items.length c4377, .int .i64 r4374.1.Head, .int .i64 r4374.1.Tail]⟩ 27 (0, 0))], sg4394, [(b4401, .cells ⟨[.slice p4392 r4390.Items.length c4393, .int .i64 r4390.Head, .int .i64 r4390.Tail]⟩ 27 (0, 0))], sg4664, [(b4671, .cells ⟨[.slice p4662 r4660.1.Items.length c4663, .int .i64 r4660.1.Head, .int .i64 r4660.1.Tail]⟩ 27 (0, 0))], (g4694 2)] := M4716
          obtain ⟨r4718, hr4718, hm⟩ := gx_bind hm
          refine W_call 18 #[.agg #[.slice p4392 r4390.Items.length c4393, .int .i64 r4390.Head, .int .i64 r4390.Tail], .agg #[.slice p4698 r4696.Items.length c4699, .int .i64 r4696.Head, .int .i64 r4696.Tail]] (by kernel_rfl) (by kernel_rfl) ?_
          refine (c_l_eqRing w4715 r4390 p4392 c4393 (ho4395.rd M4717 3 (by kernel_rfl)) r4696 p4698 c4699 (ho4701.rd M4717 7 (by kernel_rfl)) hr4718).mono ?_
          rintro e_ w4719 ⟨rfl, K4720⟩
          have M4721 := M4717.call0 K4720
          refine ⟨_, rfl, ?_⟩
          refine W_run 1 [(1, .int .i64 x4285), (2, .pointer (some ⟨b4287, 0, none⟩)), (6, .pointer (some ⟨b4385, 0, none⟩)), (7, .bool r4374.2), (8, .pointer (some ⟨b4401, 0, none⟩)), (9, .pointer (some ⟨b4671, 0, none⟩)), (10, .bool r4660.2), (49, .bool (!r4718))] w4719 (by kernel_rfl) ?_
          refine W_nil ?_
          refine N_then ?_
          rcases gx_bif hm with ⟨hc4722, hm⟩ | ⟨hc4722, hm⟩
          · refine G_cond_t (b := (!r4718)) hc4722 (by kernel_rfl) ?_
            refine G_seq ?_
            refine G_region ?_
            refine W_run 1 [(4, .bool false)] w4719 (by kernel_rfl) ?_
            refine W_nil ?_
            refine N_then ?_
            refine G_ret ?_
            refine N_then_ret ?_
            obtain rfl := Option.some.inj hm
            refine N_ret [.bool false] (RVs_cons (RV_tmp (by kernel_rfl)) RVs_nil) ?_
            exact ⟨rfl, M4721.pick [] (by kernel_rfl)⟩
          · refine G_cond_f (b := (!r4718)) hc4722 (by kernel_rfl) ?_
            refine G_skip ?_
            refine N_then ?_
            refine G_seq ?_
            refine G_region ?_
            refine W_run 1 [(1, .int .i64 x4285), (2, .pointer (some ⟨b4287, 0, none⟩)), (6, .pointer (some ⟨b4385, 0, none⟩)), (7, .bool r4374.2), (8, .pointer (some ⟨b4401, 0, none⟩)), (9, .pointer (some ⟨b4671, 0, none⟩)), (10, .bool r4660.2), (11, .int .i64 1)] w4719 (by kernel_rfl) ?_
            refine W_nil ?_
            refine N_then ?_
            refine G_seq ?_
            refine G_region ?_
            refine W_val (.agg #[.slice p4392 r4390.Items.length c4393, .int .i64 r4390.Head, .int .i64 r4390.Tail]) w4719 (by kernel_rfl) (E_load (e := 27) (fr := (0, 0)) _ _ true 3 b4401 0 [.slice p4392 r4390.Items.length c4393, .int .i64 r4390.Head, .int .i64 r4390.Tail] (.agg #[.slice p4392 r4390.Items.length c4393, .int .i64 r4390.Head, .int .i64 r4390.Tail]) rfl (by kernel_rfl) (by kernel_rfl) (by kernel_rfl) (M4721.blk 4 (b := b4401) (o := .cells ⟨[.slice p4392 r4390.Items.length c4393, .int .i64 r4390.Head, .int .i64 r4390.Tail]⟩ 27 (0, 0)) (by kernel_rfl))) ?_
            refine W_run 1 [(1, .int .i64 x4285), (2, .pointer (some ⟨b4287, 0, none⟩)), (6, .pointer (some ⟨b4385, 0, none⟩)), (7, .bool r4374.2), (9, .pointer (some ⟨b4671, 0, none⟩)), (10, .bool r4660.2), (11, .int .i64 1), (50, .agg #[.slice p4392 r4390.Items.length c4393, .int .i64 r4390.Head, .int .i64 r4390.Tail]), (51, .int .i64 1)] w4719 (by kernel_rfl) ?_
            obtain ⟨r4723, hr4723, hm⟩ := gx_bind hm
            refine W_call 19 #[.agg #[.slice p4392 r4390.Items.length c4393, .int .i64 r4390.Head, .int .i64 r4390.Tail], .int .i64 1] (by kernel_rfl) (by kernel_rfl) ?_
            refine (c_l_markRing w4719 r4390 p4392 c4393 sg4394 ho4395 1 (M4721.hasPick [3]) (M4721.nodupPick [3] (by kernel_rfl)) hr4723).mono ?_
            rintro e_ w4727 ⟨sg4724, rfl, ho4725, hl4726, K4728⟩
            have M4729 := M4721.callF' [3] [0, 1, 2, 4, 5, 6, 7] (by kernel_rfl) K4728
            refine ⟨_, rfl, ?_⟩
            refine W_conv 50 (.agg #[.slice p4392 r4390.Items.length c4393, .int .i64 r4390.Head, .int .i64 r4390.Tail]) (.agg #[.slice p4392 r4723.2.length c4393, .int .i64 r4390.Head, .int .i64 r4390.Tail]) (by kernel_rfl) (by first | rw [hl4726] | rw [hl4726]) ?_
            have M4730 : Mem [] w w4727 [[(b4287, .cells ⟨[.slice p4282 x4280.Items.length c4283, .int .i64 x4280.Head, .int .i64 x4280.Tail]⟩ 33 (0, 0))], sg4378, [(b4385, .cells ⟨[.slice p4376 r4374.1.Items.length c4377, .int .i64 r4374.1.Head, .int .i64 r4374.1.Tail]⟩ 27 (0, 0))], [(b4401, .cells ⟨[.slice p4392 r4723.2.length c4393, .int .i64 r4390.Head, .int .i64 r4390.Tail]⟩ 27 (0, 0))], sg4664, [(b4671, .cells ⟨[.slice p4662 r4660.1.Items.length c4663, .int .i64 r4660.1.Head, .int .i64 r4660.1.Tail]⟩ 27 (0, 0))], (g4694 2), sg4724] := by rw [hl4726]; exact M4729
            refine W_run 1 [(1, .int .i64 x4285), (2, .pointer (some ⟨b4287, 0, none⟩)), (6, .pointer (some ⟨b4385, 0, none⟩)), (7, .bool r4374.2), (9, .pointer (some ⟨b4671, 0, none⟩)), (10, .bool r4660.2), (11, .int .i64 r4723.1)] w4727 (by kernel_rfl) ?_
            refine W_nil ?_
            refine N_then ?_
            refine G_seq ?_
            refine G_seq ?_
            obtain ⟨o4737, ho4738, hm4739⟩ := gx_bind hm
            refine G_meet (fun a w' => Mem [] w w' [[(b4287, .cells ⟨[.slice p4282 x4280.Items.length c4283, .int .i64 x4280.Head, .int .i64 x4280.Tail]⟩ 33 (0, 0))], sg4378, [(b4385, .cells ⟨[.slice p4376 r4374.1.Items.length c4377, .int .i64 r4374.1.Head, .int .i64 r4374.1.Tail]⟩ 27 (0, 0))], sg4664, [(b4671, .cells ⟨[.slice p4662 r4660.1.Items.length c4663, .int .i64 r4660.1.Head, .int .i64 r4660.1.Tail]⟩ 27 (0, 0))]] ∧ Sat Try.f10.ntmps [(1, .int .i64 x4285), (2, .pointer (some ⟨b4287, 0, none⟩)), (6, .pointer (some ⟨b4385, 0, none⟩)), (7, .bool r4374.2), (9, .pointer (some ⟨b4671, 0, none⟩)), (65, .bool o4737)] a) ?_ ?_
            · have hm := ho4738
              refine G_region ?_
              refine W_run 3 [(1, .int .i64 x4285), (2, .pointer (some ⟨b4287, 0, none⟩)), (6, .pointer (some ⟨b4385, 0, none⟩)), (7, .bool r4374.2), (9, .pointer (some ⟨b4671, 0, none⟩)), (10, .bool r4660.2), (55, .bool (decide (r4723.1 < 0)))] w4727 (by kernel_rfl) ?_
              rcases gx_bif hm with ⟨hc4740, hm⟩ | ⟨hc4740, hm⟩
              · refine W_known 55 true (by kernel_rfl) hc4740 ?_
                refine W_run 10 [(1, .int .i64 x4285), (2, .pointer (some ⟨b4287, 0, none⟩)), (6, .pointer (some ⟨b4385, 0, none⟩)), (7, .bool r4374.2), (9, .pointer (some ⟨b4671, 0, none⟩)), (65, .bool true)] w4727 (by kernel_rfl) ?_
                refine W_nil ?_
                obtain rfl := Option.some.inj hm
                exact N_meet fun a ha => ⟨M4730.pick [0, 1, 2, 4, 5] (by kernel_rfl), ha.sub (by kernel_rfl)⟩
              · refine W_known 55 false (by kernel_rfl) hc4740 ?_
                refine W_val (.agg #[.slice p4662 r4660.1.Items.length c4663, .int .i64 r4660.1.Head, .int .i64 r4660.1.Tail]) w4727 (by kernel_rfl) (E_load (e := 27) (fr := (0, 0)) _ _ true 3 b4671 0 [.slice p4662 r4660.1.Items.length c4663, .int .i64 r4660.1.Head, .int .i64 r4660.1.Tail] (.agg #[.slice p4662 r4660.1.Items.length c4663, .int .i64 r4660.1.Head, .int .i64 r4660.1.Tail]) rfl (by kernel_rfl) (by kernel_rfl) (by kernel_rfl) (M4730.blk 5 (b := b4671) (o := .cells ⟨[.slice p4662 r4660.1.Items.length c4663, .int .i64 r4660.1.Head, .int .i64 r4660.1.Tail]⟩ 27 (0, 0)) (by kernel_rfl))) ?_
                refine W_val (.agg #[.slice p4376 r4374.1.Items.length c4377, .int .i64 r4374.1.Head, .int .i64 r4374.1.Tail]) w4727 (by kernel_rfl) (E_load (e := 27) (fr := (0, 0)) _ _ true 3 b4385 0 [.slice p4376 r4374.1.Items.length c4377, .int .i64 r4374.1.Head, .int .i64 r4374.1.Tail] (.agg #[.slice p4376 r4374.1.Items.length c4377, .int .i64 r4374.1.Head, .int .i64 r4374.1.Tail]) rfl (by kernel_rfl) (by kernel_rfl) (by kernel_rfl) (M4730.blk 2 (b := b4385) (o := .cells ⟨[.slice p4376 r4374.1.Items.length c4377, .int .i64 r4374.1.Head, .int .i64 r4374.1.Tail]⟩ 27 (0, 0)) (by kernel_rfl))) ?_
                obtain ⟨r4741, hr4741, hm⟩ := gx_bind hm
                refine W_call 18 #[.agg #[.slice p4662 r4660.1.Items.length c4663, .int .i64 r4660.1.Head, .int .i64 r4660.1.Tail], .agg #[.slice p4376 r4374.1.Items.length c4377, .int .i64 r4374.1.Head, .int .i64 r4374.1.Tail]] (by kernel_rfl) (by kernel_rfl) ?_
                refine (c_l_eqRing w4727 r4660.1 p4662 c4663 (ho4665.rd M4730 4 (by kernel_rfl)) r4374.1 p4376 c4377 (ho4379.rd M4730 1 (by kernel_rfl)) hr4741).mono ?_
                rintro e_ w4742 ⟨rfl, K4743⟩
                have M4744 := M4730.call0 K4743
                refine ⟨_, rfl, ?_⟩
                refine W_run 3 [(1, .int .i64 x4285), (2, .pointer (some ⟨b4287, 0, none⟩)), (6, .pointer (some ⟨b4385, 0, none⟩)), (7, .bool r4374.2), (9, .pointer (some ⟨b4671, 0, none⟩)), (10, .bool r4660.2), (61, .bool (!r4741))] w4742 (by kernel_rfl) ?_
                rcases gx_bif hm with ⟨hc4745, hm⟩ | ⟨hc4745, hm⟩
                · refine W_known 61 true (by kernel_rfl) hc4745 ?_
                  refine W_run 4 [(1, .int .i64 x4285), (2, .pointer (some ⟨b4287, 0, none⟩)), (6, .pointer (some ⟨b4385, 0, none⟩)), (7, .bool r4374.2), (9, .pointer (some ⟨b4671, 0, none⟩)), (65, .bool true)] w4742 (by kernel_rfl) ?_
                  refine W_nil ?_
                  obtain rfl := Option.some.inj hm
                  exact N_meet fun a ha => ⟨M4744.pick [0, 1, 2, 4, 5] (by kernel_rfl), ha.sub (by kernel_rfl)⟩
                · refine W_known 61 false (by kernel_rfl) hc4745 ?_
                  refine W_run 4 [(1, .int .i64 x4285), (2, .pointer (some ⟨b4287, 0, none⟩)), (6, .pointer (some ⟨b4385, 0, none⟩)), (7, .bool r4374.2), (9, .pointer (some ⟨b4671, 0, none⟩)), (65, .bool (!(r4660.2 == r4374.2)))] w4742 (by kernel_rfl) ?_
                  refine W_nil ?_
                  obtain rfl := Option.some.inj hm
                  exact N_meet fun a ha => ⟨M4744.pick [0, 1, 2, 4, 5] (by kernel_rfl), ha.sub (by kernel_rfl)⟩
            · intro a4748 w4746 ⟨M4747, hS4749⟩
              refine N_use hS4749 ?_
              have hm := hm4739
              refine N_then ?_
              rcases gx_bif hm with ⟨hc4750, hm⟩ | ⟨hc4750, hm⟩
              · refine G_cond_t (b := o4737) hc4750 (by kernel_rfl) ?_
                refine G_seq ?_
                refine G_region ?_
                refine W_run 1 [(4, .bool false)] w4746 (by kernel_rfl) ?_
                refine W_nil ?_
                refine N_then ?_
                refine G_ret ?_
                refine N_then_ret ?_
                obtain rfl := Option.some.inj hm
                refine N_ret [.bool false] (RVs_cons (RV_tmp (by kernel_rfl)) RVs_nil) ?_
                exact ⟨rfl, M4747.pick [] (by kernel_rfl)⟩
              · refine G_cond_f (b := o4737) hc4750 (by kernel_rfl) ?_
                refine G_skip ?_
                refine N_then ?_
                refine G_seq ?_
                refine G_region ?_
                refine W_run 1 [(1, .int .i64 x4285), (2, .pointer (some ⟨b4287, 0, none⟩)), (6, .pointer (some ⟨b4385, 0, none⟩)), (7, .bool r4374.2), (9, .pointer (some ⟨b4671, 0, none⟩)), (12, .int .i64 1)] w4746 (by kernel_rfl) ?_
                refine W_nil ?_
                refine N_then ?_
                refine G_seq ?_
                refine G_region ?_
                refine W_val (.agg #[.slice p4662 r4660.1.Items.length c4663, .int .i64 r4660.1.Head, .int .i64 r4660.1.Tail]) w4746 (by kernel_rfl) (E_load (e := 27) (fr := (0, 0)) _ _ true 3 b4671 0 [.slice p4662 r4660.1.Items.length c4663, .int .i64 r4660.1.Head, .int .i64 r4660.1.Tail] (.agg #[.slice p4662 r4660.1.Items.length c4663, .int .i64 r4660.1.Head, .int .i64 r4660.1.Tail]) rfl (by kernel_rfl) (by kernel_rfl) (by kernel_rfl) (M4747.blk 4 (b := b4671) (o := .cells ⟨[.slice p4662 r4660.1.Items.length c4663, .int .i64 r4660.1.Head, .int .i64 r4660.1.Tail]⟩ 27 (0, 0)) (by kernel_rfl))) ?_
                refine W_run 1 [(1, .int .i64 x4285), (2, .pointer (some ⟨b4287, 0, none⟩)), (6, .pointer (some ⟨b4385, 0, none⟩)), (7, .bool r4374.2), (9, .pointer (some ⟨b4671, 0, none⟩)), (12, .int .i64 1), (66, .agg #[.slice p4662 r4660.1.Items.length c4663, .int .i64 r4660.1.Head, .int .i64 r4660.1.Tail]), (67, .int .i64 1)] w4746 (by kernel_rfl) ?_
                obtain ⟨r4751, hr4751, hm⟩ := gx_bind hm
                refine W_call 19 #[.agg #[.slice p4662 r4660.1.Items.length c4663, .int .i64 r4660.1.Head, .int .i64 r4660.1.Tail], .int .i64 1] (by kernel_rfl) (by kernel_rfl) ?_
                refine (c_l_markRing w4746 r4660.1 p4662 c4663 sg4664 ho4665 1 (M4747.hasPick [3]) (M4747.nodupPick [3] (by kernel_rfl)) hr4751).mono ?_
                rintro e_ w4755 ⟨sg4752, rfl, ho4753, hl4754, K4756⟩
                have M4757 := M4747.callF' [3] [0, 1, 2, 4] (by kernel_rfl) K4756
                refine ⟨_, rfl, ?_⟩
                refine W_conv 66 (.agg #[.slice p4662 r4660.1.Items.length c4663, .int .i64 r4660.1.Head, .int .i64 r4660.1.Tail]) (.agg #[.slice p4662 r4751.2.length c4663, .int .i64 r4660.1.Head, .int .i64 r4660.1.Tail]) (by kernel_rfl) (by first | rw [hl4754] | rw [hl4754]) ?_
                have M4758 : Mem [] w w4755 [[(b4287, .cells ⟨[.slice p4282 x4280.Items.length c4283, .int .i64 x4280.Head, .int .i64 x4280.Tail]⟩ 33 (0, 0))], sg4378, [(b4385, .cells ⟨[.slice p4376 r4374.1.Items.length c4377, .int .i64 r4374.1.Head, .int .i64 r4374.1.Tail]⟩ 27 (0, 0))], [(b4671, .cells ⟨[.slice p4662 r4751.2.length c4663, .int .i64 r4660.1.Head, .int .i64 r4660.1.Tail]⟩ 27 (0, 0))], sg4752] := by rw [hl4754]; exact M4757
                refine W_run 1 [(1, .int .i64 x4285), (2, .pointer (some ⟨b4287, 0, none⟩)), (6, .pointer (some ⟨b4385, 0, none⟩)), (7, .bool r4374.2), (9, .pointer (some ⟨b4671, 0, none⟩)), (12, .int .i64 r4751.1)] w4755 (by kernel_rfl) ?_
                refine W_nil ?_
                refine N_then ?_
                refine G_seq ?_
                refine G_region ?_
                refine W_run 1 [(1, .int .i64 x4285), (2, .pointer (some ⟨b4287, 0, none⟩)), (6, .pointer (some ⟨b4385, 0, none⟩)), (7, .bool r4374.2), (9, .pointer (some ⟨b4671, 0, none⟩)), (12, .int .i64 r4751.1), (13, .int .i64 1)] w4755 (by kernel_rfl) ?_
                refine W_nil ?_
                refine N_then ?_
                refine G_seq ?_
                refine G_region ?_
                refine W_val (.agg #[.slice p4662 r4751.2.length c4663, .int .i64 r4660.1.Head, .int .i64 r4660.1.Tail]) w4755 (by kernel_rfl) (E_load (e := 27) (fr := (0, 0)) _ _ true 3 b4671 0 [.slice p4662 r4751.2.length c4663, .int .i64 r4660.1.Head, .int .i64 r4660.1.Tail] (.agg #[.slice p4662 r4751.2.length c4663, .int .i64 r4660.1.Head, .int .i64 r4660.1.Tail]) rfl (by kernel_rfl) (by kernel_rfl) (by kernel_rfl) (M4758.blk 3 (b := b4671) (o := .cells ⟨[.slice p4662 r4751.2.length c4663, .int .i64 r4660.1.Head, .int .i64 r4660.1.Tail]⟩ 27 (0, 0)) (by kernel_rfl))) ?_
                refine W_run 1 [(1, .int .i64 x4285), (2, .pointer (some ⟨b4287, 0, none⟩)), (6, .pointer (some ⟨b4385, 0, none⟩)), (7, .bool r4374.2), (9, .pointer (some ⟨b4671, 0, none⟩)), (12, .int .i64 r4751.1), (13, .int .i64 1), (69, .agg #[.slice p4662 r4751.2.length c4663, .int .i64 r4660.1.Head, .int .i64 r4660.1.Tail]), (70, .int .i64 1)] w4755 (by kernel_rfl) ?_
                obtain ⟨r4759, hr4759, hm⟩ := gx_bind hm
                refine W_call 20 #[.agg #[.slice p4662 r4751.2.length c4663, .int .i64 r4660.1.Head, .int .i64 r4660.1.Tail], .int .i64 1] (by kernel_rfl) (by kernel_rfl) ?_
                refine (c_l_heldRing w4755 (⟨r4751.2, r4660.1.Head, r4660.1.Tail⟩ : Ring) p4662 c4663 (ho4753.rd M4758 4 (by kernel_rfl)) 1 hr4759).mono ?_
                rintro e_ w4760 ⟨rfl, K4761⟩
                have M4762 := M4758.call0 K4761
                refine ⟨_, rfl, ?_⟩
                refine W_run 1 [(1, .int .i64 x4285), (2, .pointer (some ⟨b4287, 0, none⟩)), (6, .pointer (some ⟨b4385, 0, none⟩)), (7, .bool r4374.2), (9, .pointer (some ⟨b4671, 0, none⟩)), (12, .int .i64 r4751.1), (13, .int .i64 r4759)] w4760 (by kernel_rfl) ?_
                refine W_nil ?_
                refine N_then ?_
                refine G_seq ?_
                refine G_seq ?_
                refine G_region ?_
                refine W_run 2 [(1, .int .i64 x4285), (2, .pointer (some ⟨b4287, 0, none⟩)), (6, .pointer (some ⟨b4385, 0, none⟩)), (7, .bool r4374.2), (9, .pointer (some ⟨b4671, 0, none⟩)), (12, .int .i64 r4751.1), (13, .int .i64 r4759), (73, .bool (decide (r4759 < 0)))] w4760 (by kernel_rfl) ?_
                refine W_nil ?_
                refine N_then ?_
                rcases gx_bif hm with ⟨hc4763, hm⟩ | ⟨hc4763, hm⟩
                · refine G_cond_t (b := (decide (r4759 < 0))) hc4763 (by kernel_rfl) ?_
                  refine G_seq ?_
                  refine G_region ?_
                  refine W_run 1 [(4, .bool false)] w4760 (by kernel_rfl) ?_
                  refine W_nil ?_
                  refine N_then ?_
                  refine G_ret ?_
                  refine N_then_ret ?_
                  obtain rfl := Option.some.inj hm
                  refine N_ret [.bool false] (RVs_cons (RV_tmp (by kernel_rfl)) RVs_nil) ?_
                  exact ⟨rfl, M4762.pick [] (by kernel_rfl)⟩
                · refine G_cond_f (b := (decide (r4759 < 0))) hc4763 (by kernel_rfl) ?_
                  refine G_skip ?_
                  refine N_then ?_
                  refine G_seq ?_
                  refine G_seq ?_
                  refine G_region ?_
                  refine W_run 3 [(1, .int .i64 x4285), (2, .pointer (some ⟨b4287, 0, none⟩)), (6, .pointer (some ⟨b4385, 0, none⟩)), (7, .bool r4374.2), (9, .pointer (some ⟨b4671, 0, none⟩)), (12, .int .i64 r4751.1), (76, .bool (r4759 != r4751.1))] w4760 (by kernel_rfl) ?_
                  refine W_nil ?_
                  refine N_then ?_
                  rcases gx_bif hm with ⟨hc4764, hm⟩ | ⟨hc4764, hm⟩
                  · refine G_cond_t (b := (r4759 != r4751.1)) hc4764 (by kernel_rfl) ?_
                    refine G_seq ?_
                    refine G_region ?_
                    refine W_run 1 [(4, .bool false)] w4760 (by kernel_rfl) ?_
                    refine W_nil ?_
                    refine N_then ?_
                    refine G_ret ?_
                    refine N_then_ret ?_
                    obtain rfl := Option.some.inj hm
                    refine N_ret [.bool false] (RVs_cons (RV_tmp (by kernel_rfl)) RVs_nil) ?_
                    exact ⟨rfl, M4762.pick [] (by kernel_rfl)⟩
                  · refine G_cond_f (b := (r4759 != r4751.1)) hc4764 (by kernel_rfl) ?_
                    refine G_skip ?_
                    refine N_then ?_
                    refine G_seq ?_
                    refine G_region ?_
                    refine W_val (.agg #[.slice p4282 x4280.Items.length c4283, .int .i64 x4280.Head, .int .i64 x4280.Tail]) w4760 (by kernel_rfl) (E_load (e := 33) (fr := (0, 0)) _ _ true 3 b4287 0 [.slice p4282 x4280.Items.length c4283, .int .i64 x4280.Head, .int .i64 x4280.Tail] (.agg #[.slice p4282 x4280.Items.length c4283, .int .i64 x4280.Head, .int .i64 x4280.Tail]) rfl (by kernel_rfl) (by kernel_rfl) (by kernel_rfl) (M4762.blk 0 (b := b4287) (o := .cells ⟨[.slice p4282 x4280.Items.length c4283, .int .i64 x4280.Head, .int .i64 x4280.Tail]⟩ 33 (0, 0)) (by kernel_rfl))) ?_
                    obtain ⟨r4765, hr4765, hm⟩ := gx_bind hm
                    refine W_call 23 #[.agg #[.slice p4282 x4280.Items.length c4283, .int .i64 x4280.Head, .int .i64 x4280.Tail]] (by kernel_rfl) (by kernel_rfl) ?_
                    refine (c_l_toRing w4760 x4280 p4282 c4283 (h4284.mem0 M4762) hr4765).mono ?_
                    rintro e_ w4771 ⟨p4767, c4768, sg4769, rfl, ho4770, K4772⟩
                    have M4773 := M4762.call K4772
                    refine ⟨_, rfl, ?_⟩
                    refine W_run 1 [(6, .pointer (some ⟨b4385, 0, none⟩)), (7, .bool r4374.2), (9, .pointer (some ⟨b4671, 0, none⟩)), (12, .int .i64 r4751.1), (79, .agg #[.slice p4767 r4765.Items.length c4768, .int .i64 r4765.Head, .int .i64 r4765.Tail]), (80, .int .i64 x4285)] w4771 (by kernel_rfl) ?_
                    obtain ⟨r4774, hr4774, hm⟩ := gx_bind hm
                    refine W_call 37 #[.agg #[.slice p4767 r4765.Items.length c4768, .int .i64 r4765.Head, .int .i64 r4765.Tail], .int .i64 x4285] (by kernel_rfl) (by kernel_rfl) ?_
                    refine (c_i_PutWord w4771 r4765 p4767 c4768 (ho4770.rd M4773 5 (by kernel_rfl)) x4285 hr4774).mono ?_
                    rintro e_ w4780 ⟨p4776, c4777, sg4778, rfl, ho4779, K4781⟩
                    have M4782 := M4773.call K4781
                    refine ⟨_, rfl, ?_⟩
                    refine W_run 3 [(6, .pointer (some ⟨b4385, 0, none⟩)), (7, .bool r4374.2), (9, .pointer (some ⟨b4671, 0, none⟩)), (12, .int .i64 r4751.1), (82, .agg #[.slice p4776 r4774.1.Items.length c4777, .int .i64 r4774.1.Head, .int .i64 r4774.1.Tail]), (83, .bool r4774.2)] w4780 (by kernel_rfl) ?_
                    refine W_new (fun b => .pointer (some ⟨b, 0, none⟩)) (.cells ⟨[.slice none 0 0, .int .i64 0, .int .i64 0]⟩ 27 (0, 0)) M4782 rfl (by kernel_rfl) (by kernel_rfl) ?_
                    intro b4785 w4786 M4787
                    refine W_store _ _ _ true 3 b4785 0 [.slice none 0 0, .int .i64 0, .int .i64 0] 27 (.agg #[.slice p4776 r4774.1.Items.length c4777, .int .i64 r4774.1.Head, .int .i64 r4774.1.Tail]) 7 [.slice p4776 r4774.1.Items.length c4777, .int .i64 r4774.1.Head, .int .i64 r4774.1.Tail] M4787 (by kernel_rfl) rfl (by kernel_rfl) (by kernel_rfl) (by kernel_rfl) (by kernel_rfl) (by kernel_rfl) (by kernel_rfl) (by kernel_rfl) (by kernel_rfl) ?_
                    intro w4788 M4789
                    refine W_run 1 [(6, .pointer (some ⟨b4385, 0, none⟩)), (7, .bool r4374.2), (9, .pointer (some ⟨b4671, 0, none⟩)), (12, .int .i64 r4751.1), (14, .pointer (some ⟨b4785, 0, none⟩)), (15, .bool r4774.2)] w4788 (by kernel_rfl) ?_
                    refine W_nil ?_
                    refine N_then ?_
                    refine G_seq ?_
                    refine G_seq ?_
                    obtain ⟨o4795, ho4796, hm4797⟩ := gx_bind hm
                    refine G_meet (fun a w' => Mem [] w w' [[(b4671, .cells ⟨[.slice p4662 r4751.2.length c4663, .int .i64 r4660.1.Head, .int .i64 r4660.1.Tail]⟩ 27 (0, 0))], sg4752] ∧ Sat Try.f10.ntmps [(9, .pointer (some ⟨b4671, 0, none⟩)), (12, .int .i64 r4751.1), (92, .bool o4795)] a) ?_ ?_
                    · have hm := ho4796
                      refine G_region ?_
                      refine W_val (.agg #[.slice p4776 r4774.1.Items.length c4777, .int .i64 r4774.1.Head, .int .i64 r4774.1.Tail]) w4788 (by kernel_rfl) (E_load (e := 27) (fr := (0, 0)) _ _ true 3 b4785 0 [.slice p4776 r4774.1.Items.length c4777, .int .i64 r4774.1.Head, .int .i64 r4774.1.Tail] (.agg #[.slice p4776 r4774.1.Items.length c4777, .int .i64 r4774.1.Head, .int .i64 r4774.1.Tail]) rfl (by kernel_rfl) (by kernel_rfl) (by kernel_rfl) (M4789.blk 7 (b := b4785) (o := .cells ⟨[.slice p4776 r4774.1.Items.length c4777, .int .i64 r4774.1.Head, .int .i64 r4774.1.Tail]⟩ 27 (0, 0)) (by kernel_rfl))) ?_
                      refine W_val (.agg #[.slice p4376 r4374.1.Items.length c4377, .int .i64 r4374.1.Head, .int .i64 r4374.1.Tail]) w4788 (by kernel_rfl) (E_load (e := 27) (fr := (0, 0)) _ _ true 3 b4385 0 [.slice p4376 r4374.1.Items.length c4377, .int .i64 r4374.1.Head, .int .i64 r4374.1.Tail] (.agg #[.slice p4376 r4374.1.Items.length c4377, .int .i64 r4374.1.Head, .int .i64 r4374.1.Tail]) rfl (by kernel_rfl) (by kernel_rfl) (by kernel_rfl) (M4789.blk 2 (b := b4385) (o := .cells ⟨[.slice p4376 r4374.1.Items.length c4377, .int .i64 r4374.1.Head, .int .i64 r4374.1.Tail]⟩ 27 (0, 0)) (by kernel_rfl))) ?_
                      obtain ⟨r4798, hr4798, hm⟩ := gx_bind hm
                      refine W_call 18 #[.agg #[.slice p4776 r4774.1.Items.length c4777, .int .i64 r4774.1.Head, .int .i64 r4774.1.Tail], .agg #[.slice p4376 r4374.1.Items.length c4377, .int .i64 r4374.1.Head, .int .i64 r4374.1.Tail]] (by kernel_rfl) (by kernel_rfl) ?_
                      refine (c_l_eqRing w4788 r4774.1 p4776 c4777 (ho4779.rd M4789 6 (by kernel_rfl)) r4374.1 p4376 c4377 (ho4379.rd M4789 1 (by kernel_rfl)) hr4798).mono ?_
                      rintro e_ w4799 ⟨rfl, K4800⟩
                      have M4801 := M4789.call0 K4800
                      refine ⟨_, rfl, ?_⟩
                      refine W_run 2 [(7, .bool r4374.2), (9, .pointer (some ⟨b4671, 0, none⟩)), (12, .int .i64 r4751.1), (15, .bool r4774.2), (88, .bool (!r4798))] w4799 (by kernel_rfl) ?_
                      rcases gx_bif hm with ⟨hc4802, hm⟩ | ⟨hc4802, hm⟩
                      · refine W_known 88 true (by kernel_rfl) hc4802 ?_
                        refine W_run 4 [(9, .pointer (some ⟨b4671, 0, none⟩)), (12, .int .i64 r4751.1), (92, .bool true)] w4799 (by kernel_rfl) ?_
                        refine W_nil ?_
                        obtain rfl := Option.some.inj hm
                        exact N_meet fun a ha => ⟨M4801.pick [3, 4] (by kernel_rfl), ha.sub (by kernel_rfl)⟩
                      · refine W_known 88 false (by kernel_rfl) hc4802 ?_
                        refine W_run 4 [(9, .pointer (some ⟨b4671, 0, none⟩)), (12, .int .i64 r4751.1), (92, .bool (!(r4774.2 == r4374.2)))] w4799 (by kernel_rfl) ?_
                        refine W_nil ?_
                        obtain rfl := Option.some.inj hm
                        exact N_meet fun a ha => ⟨M4801.pick [3, 4] (by kernel_rfl), ha.sub (by kernel_rfl)⟩
                    · intro a4805 w4803 ⟨M4804, hS4806⟩
                      refine N_use hS4806 ?_
                      have hm := hm4797
                      refine N_then ?_
                      rcases gx_bif hm with ⟨hc4807, hm⟩ | ⟨hc4807, hm⟩
                      · refine G_cond_t (b := o4795) hc4807 (by kernel_rfl) ?_
                        refine G_seq ?_
                        refine G_region ?_
                        refine W_run 1 [(4, .bool false)] w4803 (by kernel_rfl) ?_
                        refine W_nil ?_
                        refine N_then ?_
                        refine G_ret ?_
                        refine N_then_ret ?_
                        obtain rfl := Option.some.inj hm
                        refine N_ret [.bool false] (RVs_cons (RV_tmp (by kernel_rfl)) RVs_nil) ?_
                        exact ⟨rfl, M4804.pick [] (by kernel_rfl)⟩
                      · refine G_cond_f (b := o4795) hc4807 (by kernel_rfl) ?_
                        refine G_skip ?_
                        refine N_then ?_
                        refine G_seq ?_
                        refine G_region ?_
                        refine W_run 1 [(9, .pointer (some ⟨b4671, 0, none⟩)), (12, .int .i64 r4751.1), (13, .int .i64 1)] w4803 (by kernel_rfl) ?_
                        refine W_nil ?_
                        refine N_then ?_
                        refine G_seq ?_
                        refine G_region ?_
                        refine W_val (.agg #[.slice p4662 r4751.2.length c4663, .int .i64 r4660.1.Head, .int .i64 r4660.1.Tail]) w4803 (by kernel_rfl) (E_load (e := 27) (fr := (0, 0)) _ _ true 3 b4671 0 [.slice p4662 r4751.2.length c4663, .int .i64 r4660.1.Head, .int .i64 r4660.1.Tail] (.agg #[.slice p4662 r4751.2.length c4663, .int .i64 r4660.1.Head, .int .i64 r4660.1.Tail]) rfl (by kernel_rfl) (by kernel_rfl) (by kernel_rfl) (M4804.blk 0 (b := b4671) (o := .cells ⟨[.slice p4662 r4751.2.length c4663, .int .i64 r4660.1.Head, .int .i64 r4660.1.Tail]⟩ 27 (0, 0)) (by kernel_rfl))) ?_
                        refine W_run 1 [(12, .int .i64 r4751.1), (13, .int .i64 1), (93, .agg #[.slice p4662 r4751.2.length c4663, .int .i64 r4660.1.Head, .int .i64 r4660.1.Tail]), (94, .int .i64 1)] w4803 (by kernel_rfl) ?_
                        obtain ⟨r4808, hr4808, hm⟩ := gx_bind hm
                        refine W_call 20 #[.agg #[.slice p4662 r4751.2.length c4663, .int .i64 r4660.1.Head, .int .i64 r4660.1.Tail], .int .i64 1] (by kernel_rfl) (by kernel_rfl) ?_
                        refine (c_l_heldRing w4803 (⟨r4751.2, r4660.1.Head, r4660.1.Tail⟩ : Ring) p4662 c4663 (ho4753.rd M4804 1 (by kernel_rfl)) 1 hr4808).mono ?_
                        rintro e_ w4809 ⟨rfl, K4810⟩
                        have M4811 := M4804.call0 K4810
                        refine ⟨_, rfl, ?_⟩
                        refine W_run 1 [(12, .int .i64 r4751.1), (13, .int .i64 r4808)] w4809 (by kernel_rfl) ?_
                        refine W_nil ?_
                        refine N_then ?_
                        refine G_seq ?_
                        refine G_seq ?_
                        refine G_region ?_
                        refine W_run 2 [(12, .int .i64 r4751.1), (13, .int .i64 r4808), (97, .bool (decide (r4808 < 0)))] w4809 (by kernel_rfl) ?_
                        refine W_nil ?_
                        refine N_then ?_
                        rcases gx_bif hm with ⟨hc4812, hm⟩ | ⟨hc4812, hm⟩
                        · refine G_cond_t (b := (decide (r4808 < 0))) hc4812 (by kernel_rfl) ?_
                          refine G_seq ?_
                          refine G_region ?_
                          refine W_run 1 [(4, .bool false)] w4809 (by kernel_rfl) ?_
                          refine W_nil ?_
                          refine N_then ?_
                          refine G_ret ?_
                          refine N_then_ret ?_
                          obtain rfl := Option.some.inj hm
                          refine N_ret [.bool false] (RVs_cons (RV_tmp (by kernel_rfl)) RVs_nil) ?_
                          exact ⟨rfl, M4811.pick [] (by kernel_rfl)⟩
                        · refine G_cond_f (b := (decide (r4808 < 0))) hc4812 (by kernel_rfl) ?_
                          refine G_skip ?_
                          refine N_then ?_
                          refine G_seq ?_
                          refine G_seq ?_
                          refine G_region ?_
                          refine W_run 3 [(100, .bool (r4808 != r4751.1))] w4809 (by kernel_rfl) ?_
                          refine W_nil ?_
                          refine N_then ?_
                          rcases gx_bif hm with ⟨hc4813, hm⟩ | ⟨hc4813, hm⟩
                          · refine G_cond_t (b := (r4808 != r4751.1)) hc4813 (by kernel_rfl) ?_
                            refine G_seq ?_
                            refine G_region ?_
                            refine W_run 1 [(4, .bool false)] w4809 (by kernel_rfl) ?_
                            refine W_nil ?_
                            refine N_then ?_
                            refine G_ret ?_
                            refine N_then_ret ?_
                            obtain rfl := Option.some.inj hm
                            refine N_ret [.bool false] (RVs_cons (RV_tmp (by kernel_rfl)) RVs_nil) ?_
                            exact ⟨rfl, M4811.pick [] (by kernel_rfl)⟩
                          · refine G_cond_f (b := (r4808 != r4751.1)) hc4813 (by kernel_rfl) ?_
                            refine G_skip ?_
                            refine N_then ?_
                            refine G_seq ?_
                            refine G_region ?_
                            refine W_run 1 [(4, .bool true)] w4809 (by kernel_rfl) ?_
                            refine W_nil ?_
                            refine N_then ?_
                            refine G_ret ?_
                            obtain rfl := Option.some.inj hm
                            refine N_ret [.bool true] (RVs_cons (RV_tmp (by kernel_rfl)) RVs_nil) ?_
                            exact ⟨rfl, M4811.pick [] (by kernel_rfl)⟩
theorem c_s_PutWords (w : World) (x4852 : Ring) (p4854 : Option Addr) (c4855 : Nat) (h4856 : rdS encI w x4852.Items p4854 c4855) (x4857 : List Int) (p4859 : Option Addr) (c4860 : Nat) (h4861 : rdS encI w x4857 p4859 c4860) {r : Ring × Int × Bool} (hm : M.s_PutWords x4852 x4857 = some r) :
    Calls Try.prog 38 #[.agg #[.slice p4854 x4852.Items.length c4855, .int .i64 x4852.Head, .int .i64 x4852.Tail], .slice p4859 x4857.length c4860] w fun e w' => ∃ (p4863 : Option Addr) (c4864 : Nat) (sg4865 : Seg), e = .returned (.tuple #[.agg #[.slice p4863 r.1.Items.length c4864, .int .i64 r.1.Head, .int .i64 r.1.Tail], .int .i64 r.2.1, .bool r.2.2]) ∧ ownS encI r.1.Items p4863 c4864 sg4865 ∧ Mem [] w w' [sg4865] := by
  unfold M.s_PutWords at hm
  refine C_enter Try.func38 rfl (by kernel_rfl) ?_
  have M0 := Mem.refl [] w
  refine G_seq ?_
  refine G_region ?_
  refine W_new (fun b => .pointer (some ⟨b, 0, none⟩)) (.cells ⟨[.slice p4854 x4852.Items.length c4855, .int .i64 x4852.Head, .int .i64 x4852.Tail]⟩ 27 (0, 0)) M0 rfl (by kernel_rfl) (by kernel_rfl) ?_
  intro b4867 w4868 M4869
  refine W_new (fun b => .pointer (some ⟨b, 0, none⟩)) (.cells ⟨[.slice none 0 0, .int .i64 0, .int .i64 0]⟩ 27 (0, 0)) M4869 rfl (by kernel_rfl) (by kernel_rfl) ?_
  intro b4872 w4873 M4874
  refine W_run 2 [(1, .slice p4859 x4857.length c4860), (2, .pointer (some ⟨b4867, 0, none⟩)), (4, .pointer (some ⟨b4872, 0, none⟩))] w4873 (by kernel_rfl) ?_
  refine W_nil ?_
  refine N_then ?_
  refine G_seq ?_
  refine G_seq ?_
  refine G_region ?_
  refine W_val (.agg #[.slice p4854 x4852.Items.length c4855, .int .i64 x4852.Head, .int .i64 x4852.Tail]) w4873 (by kernel_rfl) (E_load (e := 27) (fr := (0, 0)) _ _ true 3 b4867 0 [.slice p4854 x4852.Items.length c4855, .int .i64 x4852.Head, .int .i64 x4852.Tail] (.agg #[.slice p4854 x4852.Items.length c4855, .int .i64 x4852.Head, .int .i64 x4852.Tail]) rfl (by kernel_rfl) (by kernel_rfl) (by kernel_rfl) (M4874.blk 0 (b := b4867) (o := .cells ⟨[.slice p4854 x4852.Items.length c4855, .int .i64 x4852.Head, .int .i64 x4852.Tail]⟩ 27 (0, 0)) (by kernel_rfl))) ?_
  obtain ⟨r4875, hr4875, hm⟩ := gx_bind hm
  refine W_call 58 #[.agg #[.slice p4854 x4852.Items.length c4855, .int .i64 x4852.Head, .int .i64 x4852.Tail]] (by kernel_rfl) (by kernel_rfl) ?_
  refine (c_s_l20Good w4873 x4852 p4854 c4855 (h4856.mem0 M4874) hr4875).mono ?_
  rintro e_ w4876 ⟨rfl, K4877⟩
  have M4878 := M4874.call0 K4877
  refine ⟨_, rfl, ?_⟩
  refine W_run 1 [(1, .slice p4859 x4857.length c4860), (2, .pointer (some ⟨b4867, 0, none⟩)), (4, .pointer (some ⟨b4872, 0, none⟩)), (14, .bool (!r4875))] w4876 (by kernel_rfl) ?_
  refine W_nil ?_
  refine N_then ?_
  rcases gx_bif hm with ⟨hc4879, hm⟩ | ⟨hc4879, hm⟩
  · refine G_cond_t (b := (!r4875)) hc4879 (by kernel_rfl) ?_
    refine G_seq ?_
    refine G_region ?_
    refine W_run 1 [(4, .pointer (some ⟨b4872, 0, none⟩)), (15, .agg #[.slice none 0 0, .int .i64 0, .int .i64 0])] w4876 (by kernel_rfl) ?_
    refine W_store _ _ _ true 3 b4872 0 [.slice none 0 0, .int .i64 0, .int .i64 0] 27 (.agg #[.slice none 0 0, .int .i64 0, .int .i64 0]) 1 [.slice none 0 0, .int .i64 0, .int .i64 0] M4878 (by kernel_rfl) rfl (by kernel_rfl) (by kernel_rfl) (by kernel_rfl) (by kernel_rfl) (by kernel_rfl) (by kernel_rfl) (by kernel_rfl) (by kernel_rfl) ?_
    intro w4881 M4882
    refine W_run 2 [(4, .pointer (some ⟨b4872, 0, none⟩)), (5, .int .i64 0), (6, .bool false)] w4881 (by kernel_rfl) ?_
    refine W_nil ?_
    refine N_then ?_
    refine G_ret ?_
    refine N_then_ret ?_
    obtain rfl := Option.some.inj hm
    refine N_ret [.agg #[.slice none 0 0, .int .i64 0, .int .i64 0], .int .i64 0, .bool false] (RVs_cons (RV_cell (g := true) (k := 3) (b := b4872) (off := 0) (cs := [.slice none 0 0, .int .i64 0, .int .i64 0]) (e := 27) (fr := (0, 0)) (v := .agg #[.slice none 0 0, .int .i64 0, .int .i64 0]) (M4882.blk 1 (b := b4872) (o := .cells ⟨[.slice none 0 0, .int .i64 0, .int .i64 0]⟩ 27 (0, 0)) (by kernel_rfl)) (by kernel_rfl) (by kernel_rfl) (by kernel_rfl)) (RVs_cons (RV_tmp (by kernel_rfl)) (RVs_cons (RV_tmp (by kernel_rfl)) RVs_nil))) ?_
    exact ⟨none, 0, [], rfl, ownS_nil, M4882.pick [100000] (by kernel_rfl)⟩
  · refine G_cond_f (b := (!r4875)) hc4879 (by kernel_rfl) ?_
    refine G_skip ?_
    refine N_then ?_
    refine G_seq ?_
    refine G_seq ?_
    refine G_region ?_
    refine W_run 1 [(1, .slice p4859 x4857.length c4860), (2, .pointer (some ⟨b4867, 0, none⟩)), (4, .pointer (some ⟨b4872, 0, none⟩)), (7, .int .i64 0)] w4876 (by kernel_rfl) ?_
    refine W_nil ?_
    refine N_then ?_
    obtain ⟨out4910, hw4911, hmo4912⟩ := gx_bind hm
    refine G_meet (fun a w' => ∃ (o4913 : Unit), out4910 = .inl o4913 ∧ Mem [] w w' [[(b4867, .cells ⟨[.slice p4854 x4852.Items.length c4855, .int .i64 x4852.Head, .int .i64 x4852.Tail]⟩ 27 (0, 0))], [(b4872, .cells ⟨[.slice none 0 0, .int .i64 0, .int .i64 0]⟩ 27 (0, 0))]] ∧ Sat Try.f38.ntmps [(1, .slice p4859 x4857.length c4860), (2, .pointer (some ⟨b4867, 0, none⟩)), (4, .pointer (some ⟨b4872, 0, none⟩))] a) ?_ ?_
    · refine G_block ?_
      refine G_while (σ := Int) (ρ := (Unit) ⊕ (Ring × Int × Bool)) (fun s4903 a w' => Mem [] w w' [[(b4867, .cells ⟨[.slice p4854 x4852.Items.length c4855, .int .i64 x4852.Head, .int .i64 x4852.Tail]⟩ 27 (0, 0))], [(b4872, .cells ⟨[.slice none 0 0, .int .i64 0, .int .i64 0]⟩ 27 (0, 0))]] ∧ Sat Try.f38.ntmps [(1, .slice p4859 x4857.length c4860), (2, .pointer (some ⟨b4867, 0, none⟩)), (4, .pointer (some ⟨b4872, 0, none⟩)), (7, .int .i64 s4903)] a) hw4911 (fun a ha => ⟨M4878.pick [0, 1] (by kernel_rfl), ha.sub (by kernel_rfl)⟩) ?_
      clear hm
      intro s4903 x4904 hm hout4905 a4906 w4907 ⟨M4908, hS4909⟩
      refine G_use hS4909 ?_
      refine G_seq ?_
      refine G_seq ?_
      refine G_region ?_
      refine W_run 4 [(1, .slice p4859 x4857.length c4860), (2, .pointer (some ⟨b4867, 0, none⟩)), (4, .pointer (some ⟨b4872, 0, none⟩)), (7, .int .i64 s4903), (19, .bool (decide (s4903 < (x4857.length : Int))))] w4907 (by kernel_rfl) ?_
      refine W_nil ?_
      refine N_then ?_
      rcases gx_bif hm with ⟨hc4914, hm⟩ | ⟨hc4914, hm⟩
      · refine G_cond_t (b := (decide (s4903 < (x4857.length : Int)))) hc4914 (by kernel_rfl) ?_
        refine G_skip ?_
        refine N_then ?_
        refine G_seq ?_
        refine G_block ?_
        refine G_seq ?_
        refine G_region ?_
        refine W_run 2 [(1, .slice p4859 x4857.length c4860), (2, .pointer (some ⟨b4867, 0, none⟩)), (4, .pointer (some ⟨b4872, 0, none⟩)), (7, .int .i64 s4903), (22, .slice p4859 x4857.length c4860), (23, .int .i64 s4903)] w4907 (by kernel_rfl) ?_
        obtain ⟨y4915, hy4915, hm⟩ := gx_bind hm
        refine W_val (elemP p4859 (s4903.toNat * 1)) w4907 (by kernel_rfl) (E_index (E := encI) _ _ _ x4857.length c4860 .i64 s4903 1 (y := y4915) rfl (by kernel_rfl) (by kernel_rfl) (by kernel_rfl) (h4861.mem0 M4908) rfl hy4915) ?_
        refine W_val (.int .i64 y4915) w4907 (by kernel_rfl) (E_loadE (E := encI) _ _ false 1 s4903 0 (s4903.toNat * 1) y4915 (.int .i64 y4915) rfl (by kernel_rfl) (by kernel_rfl) (by kernel_rfl) (h4861.mem0 M4908) hy4915 rfl) ?_
        obtain ⟨r4916, hr4916, hm⟩ := gx_bind hm
        refine W_call 52 #[.int .i64 y4915] (by kernel_rfl) (by kernel_rfl) ?_
        refine (c_s_l2Word16 w4907 y4915 hr4916).mono ?_
        rintro e_ w4917 ⟨rfl, K4918⟩
        have M4919 := M4908.call0 K4918
        refine ⟨_, rfl, ?_⟩
        refine W_run 1 [(1, .slice p4859 x4857.length c4860), (2, .pointer (some ⟨b4867, 0, none⟩)), (4, .pointer (some ⟨b4872, 0, none⟩)), (7, .int .i64 s4903), (27, .bool (!r4916))] w4917 (by kernel_rfl) ?_
        refine W_nil ?_
        refine N_then ?_
        rcases gx_bif hm with ⟨hc4920, hm⟩ | ⟨hc4920, hm⟩
        · refine G_cond_t (b := (!r4916)) hc4920 (by kernel_rfl) ?_
          refine G_seq ?_
          refine G_region ?_
          refine W_run 1 [(4, .pointer (some ⟨b4872, 0, none⟩)), (28, .agg #[.slice none 0 0, .int .i64 0, .int .i64 0])] w4917 (by kernel_rfl) ?_
          refine W_store _ _ _ true 3 b4872 0 [.slice none 0 0, .int .i64 0, .int .i64 0] 27 (.agg #[.slice none 0 0, .int .i64 0, .int .i64 0]) 1 [.slice none 0 0, .int .i64 0, .int .i64 0] M4919 (by kernel_rfl) rfl (by kernel_rfl) (by kernel_rfl) (by kernel_rfl) (by kernel_rfl) (by kernel_rfl) (by kernel_rfl) (by kernel_rfl) (by kernel_rfl) ?_
          intro w4922 M4923
          refine W_run 2 [(4, .pointer (some ⟨b4872, 0, none⟩)), (5, .int .i64 0), (6, .bool false)] w4922 (by kernel_rfl) ?_
          refine W_nil ?_
          refine N_then ?_
          refine G_ret ?_
          refine N_block_ret ?_
          refine N_then_ret ?_
          refine N_then_ret ?_
          obtain rfl := Option.some.inj hm
          obtain rfl := hout4905 _ rfl
          have hm := hmo4912; simp only [Sum.elim_inr] at hm
          refine N_block_ret ?_
          refine N_meet_ret ?_
          refine N_then_ret ?_
          obtain rfl := Option.some.inj hm
          refine N_ret [.agg #[.slice none 0 0, .int .i64 0, .int .i64 0], .int .i64 0, .bool false] (RVs_cons (RV_cell (g := true) (k := 3) (b := b4872) (off := 0) (cs := [.slice none 0 0, .int .i64 0, .int .i64 0]) (e := 27) (fr := (0, 0)) (v := .agg #[.slice none 0 0, .int .i64 0, .int .i64 0]) (M4923.blk 1 (b := b4872) (o := .cells ⟨[.slice none 0 0, .int .i64 0, .int .i64 0]⟩ 27 (0, 0)) (by kernel_rfl)) (by kernel_rfl) (by kernel_rfl) (by kernel_rfl)) (RVs_cons (RV_tmp (by kernel_rfl)) (RVs_cons (RV_tmp (by kernel_rfl)) RVs_nil))) ?_
          exact ⟨none, 0, [], rfl, ownS_nil, M4923.pick [100000] (by kernel_rfl)⟩
        · refine G_cond_f (b := (!r4916)) hc4920 (by kernel_rfl) ?_
          refine G_skip ?_
          refine N_block ?_
          refine N_then ?_
          refine G_region ?_
          refine W_run 3 [(1, .slice p4859 x4857.length c4860), (2, .pointer (some ⟨b4867, 0, none⟩)), (4, .pointer (some ⟨b4872, 0, none⟩)), (7, .int .i64 (w64 (s4903 + 1)))] w4917 (by kernel_rfl) ?_
          refine W_nil ?_
          obtain rfl := Option.some.inj hm
          exact N_loop fun a ha => ⟨_, rfl, M4919.pick [0, 1] (by kernel_rfl), ha.sub (by kernel_rfl)⟩
      · refine G_cond_f (b := (decide (s4903 < (x4857.length : Int)))) hc4914 (by kernel_rfl) ?_
        refine G_exit ?_
        refine N_then_exit ?_
        refine N_then_exit ?_
        refine N_block_eq ?_
        obtain rfl := Option.some.inj hm
        obtain rfl := hout4905 _ rfl
        exact N_meet fun a ha => ⟨_, rfl, M4908.pick [0, 1] (by kernel_rfl), ha.sub (by kernel_rfl)⟩
    · intro a4924 w4925 ⟨o4913, hout_, M4926, hS4927⟩
      refine N_use hS4927 ?_
      subst hout_
      have hm := hmo4912; simp only [Sum.elim_inl] at hm
      refine N_then ?_
      refine G_seq ?_
      obtain ⟨r4930, hr4930, hm⟩ := gx_bind hm
      refine G_sub [(1, .slice p4859 x4857.length c4860), (2, .pointer (some ⟨b4867, 0, none⟩)), (4, .pointer (some ⟨b4872, 0, none⟩))] (by kernel_rfl) ?_
      refine G_dagL 9 [[], [0], [1], [], [3], [], [5], [4, 6], []] [[], [], [], [], [], [], [], [], []] [[], [], [], [], [], [], [], [], []] [[], [], [], [], [], [], [], [2], []] [[], [], [], [], [], [], [], [2], []] [[], [], [], [], [], [], [], [], []] (fun _ => []) (fun i => ([fun f v s => v = (.pointer (some ⟨b4867, 0, none⟩) : Value) ∧ s = [], fun f v s => v = (.slice p4854 x4852.Items.length c4855 : Value) ∧ s = [], fun f v s => ∃ (p4932 : Option Addr) (c4933 : Nat), v = (.slice p4932 r4930.length c4933 : Value) ∧ ownS encI r4930 p4932 c4933 s, fun f v s => v = (.pointer (some ⟨b4867, 1, none⟩) : Value) ∧ s = [], fun f v s => v = (.int .i64 x4852.Head : Value) ∧ s = [], fun f v s => v = (.pointer (some ⟨b4867, 2, none⟩) : Value) ∧ s = [], fun f v s => v = (.int .i64 x4852.Tail : Value) ∧ s = [], fun f v s => v = (.agg #[(atPath (f 2) []), .int .i64 x4852.Head, .int .i64 x4852.Tail] : Value) ∧ s = [], fun f v s => ∃ (b4939 : Nat), v = (.pointer (some ⟨b4939, 0, none⟩) : Value) ∧ s = [(b4939, .cells ⟨[.slice none 0 0, .int .i64 0, .int .i64 0]⟩ 27 (0, 0))]] : List ((Nat → Value) → Value → Seg → Prop)).getD i (fun _ _ _ => False)) (fun j f v => ∃ s, (fun i => ([fun f v s => v = (.pointer (some ⟨b4867, 0, none⟩) : Value) ∧ s = [], fun f v s => v = (.slice p4854 x4852.Items.length c4855 : Value) ∧ s = [], fun f v s => ∃ (p4932 : Option Addr) (c4933 : Nat), v = (.slice p4932 r4930.length c4933 : Value) ∧ ownS encI r4930 p4932 c4933 s, fun f v s => v = (.pointer (some ⟨b4867, 1, none⟩) : Value) ∧ s = [], fun f v s => v = (.int .i64 x4852.Head : Value) ∧ s = [], fun f v s => v = (.pointer (some ⟨b4867, 2, none⟩) : Value) ∧ s = [], fun f v s => v = (.int .i64 x4852.Tail : Value) ∧ s = [], fun f v s => v = (.agg #[(atPath (f 2) []), .int .i64 x4852.Head, .int .i64 x4852.Tail] : Value) ∧ s = [], fun f v s => ∃ (b4939 : Nat), v = (.pointer (some ⟨b4939, 0, none⟩) : Value) ∧ s = [(b4939, .cells ⟨[.slice none 0 0, .int .i64 0, .int .i64 0]⟩ 27 (0, 0))]] : List ((Nat → Value) → Value → Seg → Prop)).getD i (fun _ _ _ => False)) j f v s) [] [2, 7, 8] [2, 8] (fun _ _ _ s h => ⟨s, h⟩) (by kernel_rfl) (by kernel_rfl) (M4926.preNil 9) (by kernel_rfl) (by kernel_rfl) (by kernel_rfl) (by kernel_rfl) (allOb_cons ?_ (allOb_cons ?_ (allOb_cons ?_ (allOb_cons ?_ (allOb_cons ?_ (allOb_cons ?_ (allOb_cons ?_ (allOb_cons ?_ (allOb_cons ?_ allOb_nil))))))))) ?_
      · intro g4928 f4929
        intro R w4940 M4941
        refine W_run 1 [(29, .pointer (some ⟨b4867, 0, none⟩))] w4940 (by kernel_rfl) ?_
        exact W_nil (ob_end (.pointer (some ⟨b4867, 0, none⟩)) [] rfl (by kernel_rfl) ⟨by kernel_rfl, rfl⟩ M4941)
      · intro g4928 f4929
        intro v0_ hb0_
        obtain ⟨rfl, _⟩ := hb0_
        intro R w4944 M4945
        refine W_val (.slice p4854 x4852.Items.length c4855) w4944 (by kernel_rfl) (E_load (e := 27) (fr := (0, 0)) _ _ false 1 b4867 0 [.slice p4854 x4852.Items.length c4855, .int .i64 x4852.Head, .int .i64 x4852.Tail] (.slice p4854 x4852.Items.length c4855) rfl (by kernel_rfl) (by kernel_rfl) (by kernel_rfl) (M4945.blk 0 (b := b4867) (o := .cells ⟨[.slice p4854 x4852.Items.length c4855, .int .i64 x4852.Head, .int .i64 x4852.Tail]⟩ 27 (0, 0)) (by kernel_rfl))) ?_
        exact W_nil (ob_end (.slice p4854 x4852.Items.length c4855) [] rfl (by kernel_rfl) ⟨by kernel_rfl, rfl⟩ M4945)
      · intro g4928 f4929
        intro v1_ hb1_
        obtain ⟨rfl, _⟩ := hb1_
        intro R w4948 M4949
        refine W_call 62 #[.slice p4854 x4852.Items.length c4855] (by kernel_rfl) (by kernel_rfl) ?_
        refine (c_s_l1Own w4948 x4852.Items p4854 c4855 (h4856.mem0 M4949) hr4930).mono ?_
        rintro e_ w4950 ⟨p4932, c4933, sg4934, rfl, ho4935, K4952⟩
        refine ⟨_, rfl, ?_⟩
        exact W_nil (ob_end (.slice p4932 r4930.length c4933) sg4934 rfl (by kernel_rfl) ⟨p4932, c4933, rfl, ho4935⟩ (Mem.callMid M4949 K4952))
      · intro g4928 f4929
        intro R w4953 M4954
        refine W_run 1 [(32, .pointer (some ⟨b4867, 1, none⟩))] w4953 (by kernel_rfl) ?_
        exact W_nil (ob_end (.pointer (some ⟨b4867, 1, none⟩)) [] rfl (by kernel_rfl) ⟨by kernel_rfl, rfl⟩ M4954)
      · intro g4928 f4929
        intro v3_ hb3_
        obtain ⟨rfl, _⟩ := hb3_
        intro R w4957 M4958
        refine W_val (.int .i64 x4852.Head) w4957 (by kernel_rfl) (E_load (e := 27) (fr := (0, 0)) _ _ false 1 b4867 1 [.slice p4854 x4852.Items.length c4855, .int .i64 x4852.Head, .int .i64 x4852.Tail] (.int .i64 x4852.Head) rfl (by kernel_rfl) (by kernel_rfl) (by kernel_rfl) (M4958.blk 0 (b := b4867) (o := .cells ⟨[.slice p4854 x4852.Items.length c4855, .int .i64 x4852.Head, .int .i64 x4852.Tail]⟩ 27 (0, 0)) (by kernel_rfl))) ?_
        exact W_nil (ob_end (.int .i64 x4852.Head) [] rfl (by kernel_rfl) ⟨by kernel_rfl, rfl⟩ M4958)
      · intro g4928 f4929
        intro R w4961 M4962
        refine W_run 1 [(34, .pointer (some ⟨b4867, 2, none⟩))] w4961 (by kernel_rfl) ?_
        exact W_nil (ob_end (.pointer (some ⟨b4867, 2, none⟩)) [] rfl (by kernel_rfl) ⟨by kernel_rfl, rfl⟩ M4962)
      · intro g4928 f4929
        intro v5_ hb5_
        obtain ⟨rfl, _⟩ := hb5_
        intro R w4965 M4966
        refine W_val (.int .i64 x4852.Tail) w4965 (by kernel_rfl) (E_load (e := 27) (fr := (0, 0)) _ _ false 1 b4867 2 [.slice p4854 x4852.Items.length c4855, .int .i64 x4852.Head, .int .i64 x4852.Tail] (.int .i64 x4852.Tail) rfl (by kernel_rfl) (by kernel_rfl) (by kernel_rfl) (M4966.blk 0 (b := b4867) (o := .cells ⟨[.slice p4854 x4852.Items.length c4855, .int .i64 x4852.Head, .int .i64 x4852.Tail]⟩ 27 (0, 0)) (by kernel_rfl))) ?_
        exact W_nil (ob_end (.int .i64 x4852.Tail) [] rfl (by kernel_rfl) ⟨by kernel_rfl, rfl⟩ M4966)
      · intro g4928 f4929
        intro v2_ hb2_
        obtain ⟨_, p4932, c4933, rfl, _⟩ := hb2_
        intro v4_ hb4_
        obtain ⟨rfl, _⟩ := hb4_
        intro v6_ hb6_
        obtain ⟨rfl, _⟩ := hb6_
        intro R w4969 M4970
        refine W_run 1 [(36, .agg #[.slice p4932 r4930.length c4933, .int .i64 x4852.Head, .int .i64 x4852.Tail])] w4969 (by kernel_rfl) ?_
        exact W_nil (ob_end (.agg #[.slice p4932 r4930.length c4933, .int .i64 x4852.Head, .int .i64 x4852.Tail]) [] rfl (by kernel_rfl) ⟨by kernel_rfl, rfl⟩ M4970)
      · intro g4928 f4929
        intro R w4973 M4974
        refine W_new (fun b => .pointer (some ⟨b, 0, none⟩)) (.cells ⟨[.slice none 0 0, .int .i64 0, .int .i64 0]⟩ 27 (0, 0)) M4974 rfl (by kernel_rfl) (by kernel_rfl) ?_
        intro b4939 w4975 M4976
        exact W_nil (ob_end (.pointer (some ⟨b4939, 0, none⟩)) [(b4939, .cells ⟨[.slice none 0 0, .int .i64 0, .int .i64 0]⟩ 27 (0, 0))] rfl (by kernel_rfl) ⟨b4939, rfl, rfl⟩ (Mem.mid M4976))
      · intro g4928 f4929
        intro v2_ hb2_
        obtain ⟨p4932, c4933, rfl, ho4935⟩ := hb2_
        intro v7_ hb7_
        obtain ⟨hv7_, _⟩ := hb7_
        obtain rfl : v7_ = (.agg #[.slice p4932 r4930.length c4933, .int .i64 x4852.Head, .int .i64 x4852.Tail] : Value) := hv7_.trans (by kernel_rfl)
        intro v8_ hb8_
        obtain ⟨b4939, rfl, hs8_⟩ := hb8_
        intro w4977 M4978
        have M4979 : Mem [] w w4977 [[(b4867, .cells ⟨[.slice p4854 x4852.Items.length c4855, .int .i64 x4852.Head, .int .i64 x4852.Tail]⟩ 27 (0, 0))], [(b4872, .cells ⟨[.slice none 0 0, .int .i64 0, .int .i64 0]⟩ 27 (0, 0))], (g4928 2), (g4928 8)] := M4978
        rw [hs8_] at M4979
        refine W_store _ _ _ true 3 b4939 0 [.slice none 0 0, .int .i64 0, .int .i64 0] 27 (.agg #[.slice p4932 r4930.length c4933, .int .i64 x4852.Head, .int .i64 x4852.Tail]) 3 [.slice p4932 r4930.length c4933, .int .i64 x4852.Head, .int .i64 x4852.Tail] M4979 (by kernel_rfl) rfl (by kernel_rfl) (by kernel_rfl) (by kernel_rfl) (by kernel_rfl) (by kernel_rfl) (by kernel_rfl) (by kernel_rfl) (by kernel_rfl) ?_
        intro w4980 M4981
        refine W_nil ?_
        refine N_then ?_
        refine G_seq ?_
        refine G_seq ?_
        refine G_region ?_
        refine W_run 1 [(1, .slice p4859 x4857.length c4860), (4, .pointer (some ⟨b4872, 0, none⟩)), (8, .pointer (some ⟨b4939, 0, none⟩)), (9, .int .i64 0)] w4980 (by kernel_rfl) ?_
        refine W_nil ?_
        refine N_then ?_
        obtain ⟨out5128, hw5129, hmo5130⟩ := gx_bind hm
        refine G_meet (fun a w' => ∃ (o5136 : List Int × Int × Int), ∃ (p5137 : Option Addr), ∃ (c5138 : Nat), ∃ (sg5139 : Seg), ownS encI o5136.1 p5137 c5138 sg5139 ∧ out5128 = .inl o5136 ∧ Mem [] w w' [[(b4872, .cells ⟨[.slice none 0 0, .int .i64 0, .int .i64 0]⟩ 27 (0, 0))], [(b4939, .cells ⟨[.slice p5137 o5136.1.length c5138, .int .i64 o5136.2.1, .int .i64 o5136.2.2]⟩ 27 (0, 0))], sg5139] ∧ Sat Try.f38.ntmps [(1, .slice p4859 x4857.length c4860), (4, .pointer (some ⟨b4872, 0, none⟩)), (8, .pointer (some ⟨b4939, 0, none⟩))] a) ?_ ?_
        · refine G_block ?_
          refine G_while (σ := Int × List Int × Int × Int) (ρ := (List Int × Int × Int) ⊕ (Ring × Int × Bool)) (fun s5121 a w' => ∃ (p5131 : Option Addr), ∃ (c5132 : Nat), ∃ (sg5133 : Seg), ownS encI s5121.2.1 p5131 c5132 sg5133 ∧ Mem [] w w' [[(b4872, .cells ⟨[.slice none 0 0, .int .i64 0, .int .i64 0]⟩ 27 (0, 0))], [(b4939, .cells ⟨[.slice p5131 s5121.2.1.length c5132, .int .i64 s5121.2.2.1, .int .i64 s5121.2.2.2]⟩ 27 (0, 0))], sg5133] ∧ Sat Try.f38.ntmps [(1, .slice p4859 x4857.length c4860), (4, .pointer (some ⟨b4872, 0, none⟩)), (8, .pointer (some ⟨b4939, 0, none⟩)), (9, .int .i64 s5121.1)] a) hw5129 (fun a ha => ⟨p4932, c4933, (g4928 2), ho4935, M4981.pick [1, 3, 2] (by kernel_rfl), ha.sub (by kernel_rfl)⟩) ?_
          clear hm
          intro s5121 x5122 hm hout5123 a5124 w5125 ⟨p5131, c5132, sg5133, ho5134, M5126, hS5127⟩
          refine G_use hS5127 ?_
          refine G_seq ?_
          refine G_seq ?_
          refine G_region ?_
          refine W_run 4 [(1, .slice p4859 x4857.length c4860), (4, .pointer (some ⟨b4872, 0, none⟩)), (8, .pointer (some ⟨b4939, 0, none⟩)), (9, .int .i64 s5121.1), (40, .bool (decide (s5121.1 < (x4857.length : Int))))] w5125 (by kernel_rfl) ?_
          refine W_nil ?_
          refine N_then ?_
          rcases gx_bif hm with ⟨hc5142, hm⟩ | ⟨hc5142, hm⟩
          · refine G_cond_t (b := (decide (s5121.1 < (x4857.length : Int)))) hc5142 (by kernel_rfl) ?_
            refine G_skip ?_
            refine N_then ?_
            refine G_seq ?_
            refine G_block ?_
            refine G_seq ?_
            obtain ⟨y5145, hy5145, hm⟩ := gx_bind hm
            obtain ⟨r5146, hr5146, hm⟩ := gx_bind hm
            refine G_sub [(1, .slice p4859 x4857.length c4860), (4, .pointer (some ⟨b4872, 0, none⟩)), (8, .pointer (some ⟨b4939, 0, none⟩)), (9, .int .i64 s5121.1), (40, .bool (decide (s5121.1 < (x4857.length : Int))))] (by kernel_rfl) ?_
            refine G_dagL 11 [[], [], [], [1, 2], [3], [0, 4], [], [6], [6], [], [7, 9]] [[], [], [], [], [], [], [], [], [], [], [9]] [[], [], [], [], [], [], [], [], [], [], []] [[], [], [], [], [], [], [5], [5], [5], [], [5]] [[], [], [], [], [], [], [5], [5], [], [], [5, 9]] [[], [], [], [], [], [], [], [], [], [], []] (fun _ => []) (fun i => ([fun f v s => v = (.agg #[.slice p5131 s5121.2.1.length c5132, .int .i64 s5121.2.2.1, .int .i64 s5121.2.2.2] : Value) ∧ s = [], fun f v s => v = (.slice p4859 x4857.length c4860 : Value) ∧ s = [], fun f v s => v = (.int .i64 s5121.1 : Value) ∧ s = [], fun f v s => v = (elemP p4859 (s5121.1.toNat * 1) : Value) ∧ s = [], fun f v s => v = (.int .i64 y5145 : Value) ∧ s = [], fun f v s => ∃ (p5148 : Option Addr) (c5149 : Nat), v = (.tuple #[.agg #[.slice p5148 r5146.1.Items.length c5149, .int .i64 r5146.1.Head, .int .i64 r5146.1.Tail], .bool r5146.2] : Value) ∧ ownS encI r5146.1.Items p5148 c5149 s, fun f v s => v = (.tuple #[.agg #[(atPath (f 5) [0, 0]), .int .i64 r5146.1.Head, .int .i64 r5146.1.Tail], .bool r5146.2] : Value) ∧ s = [], fun f v s => v = (.agg #[(atPath (f 5) [0, 0]), .int .i64 r5146.1.Head, .int .i64 r5146.1.Tail] : Value) ∧ s = [], fun f v s => v = (.bool r5146.2 : Value) ∧ s = [], fun f v s => ∃ (b5154 : Nat), v = (.pointer (some ⟨b5154, 0, none⟩) : Value) ∧ s = [(b5154, .cells ⟨[.slice none 0 0, .int .i64 0, .int .i64 0]⟩ 27 (0, 0))], fun f v s => v = undef ∧ s = [((blkOf (f 9)), .cells ⟨[(atPath (f 5) [0, 0]), .int .i64 r5146.1.Head, .int .i64 r5146.1.Tail]⟩ 27 (0, 0))]] : List ((Nat → Value) → Value → Seg → Prop)).getD i (fun _ _ _ => False)) (fun j f v => ∃ s, (fun i => ([fun f v s => v = (.agg #[.slice p5131 s5121.2.1.length c5132, .int .i64 s5121.2.2.1, .int .i64 s5121.2.2.2] : Value) ∧ s = [], fun f v s => v = (.slice p4859 x4857.length c4860 : Value) ∧ s = [], fun f v s => v = (.int .i64 s5121.1 : Value) ∧ s = [], fun f v s => v = (elemP p4859 (s5121.1.toNat * 1) : Value) ∧ s = [], fun f v s => v = (.int .i64 y5145 : Value) ∧ s = [], fun f v s => ∃ (p5148 : Option Addr) (c5149 : Nat), v = (.tuple #[.agg #[.slice p5148 r5146.1.Items.length c5149, .int .i64 r5146.1.Head, .int .i64 r5146.1.Tail], .bool r5146.2] : Value) ∧ ownS encI r5146.1.Items p5148 c5149 s, fun f v s => v = (.tuple #[.agg #[(atPath (f 5) [0, 0]), .int .i64 r5146.1.Head, .int .i64 r5146.1.Tail], .bool r5146.2] : Value) ∧ s = [], fun f v s => v = (.agg #[(atPath (f 5) [0, 0]), .int .i64 r5146.1.Head, .int .i64 r5146.1.Tail] : Value) ∧ s = [], fun f v s => v = (.bool r5146.2 : Value) ∧ s = [], fun f v s => ∃ (b5154 : Nat), v = (.pointer (some ⟨b5154, 0, none⟩) : Value) ∧ s = [(b5154, .cells ⟨[.slice none 0 0, .int .i64 0, .int .i64 0]⟩ 27 (0, 0))], fun f v s => v = undef ∧ s = [((blkOf (f 9)), .cells ⟨[(atPath (f 5) [0, 0]), .int .i64 r5146.1.Head, .int .i64 r5146.1.Tail]⟩ 27 (0, 0))]] : List ((Nat → Value) → Value → Seg → Prop)).getD i (fun _ _ _ => False)) j f v s) [9] [5, 8, 10] [5, 10] (fun _ _ _ s h => ⟨s, h⟩) (by kernel_rfl) (by kernel_rfl) (M5126.preNil 11) (by kernel_rfl) (by kernel_rfl) (by kernel_rfl) (by kernel_rfl) (allOb_cons ?_ (allOb_cons ?_ (allOb_cons ?_ (allOb_cons ?_ (allOb_cons ?_ (allOb_cons ?_ (allOb_cons ?_ (allOb_cons ?_ (allOb_cons ?_ (allOb_cons ?_ (allOb_cons ?_ allOb_nil))))))))))) ?_
            · intro g5143 f5144
              intro R w5155 M5156
              refine W_val (.agg #[.slice p5131 s5121.2.1.length c5132, .int .i64 s5121.2.2.1, .int .i64 s5121.2.2.2]) w5155 (by kernel_rfl) (E_load (e := 27) (fr := (0, 0)) _ _ true 3 b4939 0 [.slice p5131 s5121.2.1.length c5132, .int .i64 s5121.2.2.1, .int .i64 s5121.2.2.2] (.agg #[.slice p5131 s5121.2.1.length c5132, .int .i64 s5121.2.2.1, .int .i64 s5121.2.2.2]) rfl (by kernel_rfl) (by kernel_rfl) (by kernel_rfl) (M5156.blk 1 (b := b4939) (o := .cells ⟨[.slice p5131 s5121.2.1.length c5132, .int .i64 s5121.2.2.1, .int .i64 s5121.2.2.2]⟩ 27 (0, 0)) (by kernel_rfl))) ?_
              exact W_nil (ob_end (.agg #[.slice p5131 s5121.2.1.length c5132, .int .i64 s5121.2.2.1, .int .i64 s5121.2.2.2]) [] rfl (by kernel_rfl) ⟨by kernel_rfl, rfl⟩ M5156)
            · intro g5143 f5144
              intro R w5159 M5160
              refine W_run 1 [(45, .slice p4859 x4857.length c4860)] w5159 (by kernel_rfl) ?_
              exact W_nil (ob_end (.slice p4859 x4857.length c4860) [] rfl (by kernel_rfl) ⟨by kernel_rfl, rfl⟩ M5160)
            · intro g5143 f5144
              intro R w5163 M5164
              refine W_run 1 [(46, .int .i64 s5121.1)] w5163 (by kernel_rfl) ?_
              exact W_nil (ob_end (.int .i64 s5121.1) [] rfl (by kernel_rfl) ⟨by kernel_rfl, rfl⟩ M5164)
            · intro g5143 f5144
              intro v1_ hb1_
              obtain ⟨rfl, _⟩ := hb1_
              intro v2_ hb2_
              obtain ⟨rfl, _⟩ := hb2_
              intro R w5167 M5168
              refine W_val (elemP p4859 (s5121.1.toNat * 1)) w5167 (by kernel_rfl) (E_index (E := encI) _ _ _ x4857.length c4860 .i64 s5121.1 1 (y := y5145) rfl (by kernel_rfl) (by kernel_rfl) (by kernel_rfl) (h4861.mem0 M5168) rfl hy5145) ?_
              exact W_nil (ob_end (elemP p4859 (s5121.1.toNat * 1)) [] rfl (by kernel_rfl) ⟨by kernel_rfl, rfl⟩ M5168)
            · intro g5143 f5144
              intro v3_ hb3_
              obtain ⟨rfl, _⟩ := hb3_
              intro R w5171 M5172
              refine W_val (.int .i64 y5145) w5171 (by kernel_rfl) (E_loadE (E := encI) _ _ false 1 s5121.1 0 (s5121.1.toNat * 1) y5145 (.int .i64 y5145) rfl (by kernel_rfl) (by kernel_rfl) (by kernel_rfl) (h4861.mem0 M5172) hy5145 rfl) ?_
              exact W_nil (ob_end (.int .i64 y5145) [] rfl (by kernel_rfl) ⟨by kernel_rfl, rfl⟩ M5172)
            · intro g5143 f5144
              intro v0_ hb0_
              obtain ⟨rfl, _⟩ := hb0_
              intro v4_ hb4_
              obtain ⟨rfl, _⟩ := hb4_
              intro R w5175 M5176
              refine W_call 67 #[.agg #[.slice p5131 s5121.2.1.length c5132, .int .i64 s5121.2.2.1, .int .i64 s5121.2.2.2], .int .i64 y5145] (by kernel_rfl) (by kernel_rfl) ?_
              refine (c_s_l20Put w5175 (⟨s5121.2.1, s5121.2.2.1, s5121.2.2.2⟩ : Ring) p5131 c5132 (ho5134.rd M5176 2 (by kernel_rfl)) y5145 hr5146).mono ?_
              rintro e_ w5177 ⟨p5148, c5149, sg5150, rfl, ho5151, K5179⟩
              refine ⟨_, rfl, ?_⟩
              exact W_nil (ob_end (.tuple #[.agg #[.slice p5148 r5146.1.Items.length c5149, .int .i64 r5146.1.Head, .int .i64 r5146.1.Tail], .bool r5146.2]) sg5150 rfl (by kernel_rfl) ⟨p5148, c5149, rfl, ho5151⟩ (Mem.callMid M5176 K5179))
            · intro g5143 f5144
              intro v5_ hb5_
              obtain ⟨_, p5148, c5149, rfl, _⟩ := hb5_
              intro R w5180 M5181
              refine W_run 1 [(43, .tuple #[.agg #[.slice p5148 r5146.1.Items.length c5149, .int .i64 r5146.1.Head, .int .i64 r5146.1.Tail], .bool r5146.2])] w5180 (by kernel_rfl) ?_
              exact W_nil (ob_end (.tuple #[.agg #[.slice p5148 r5146.1.Items.length c5149, .int .i64 r5146.1.Head, .int .i64 r5146.1.Tail], .bool r5146.2]) [] rfl (by kernel_rfl) ⟨by kernel_rfl, rfl⟩ M5181)
            · intro g5143 f5144
              intro v5_ hb5_
              obtain ⟨_, p5148, c5149, rfl, _⟩ := hb5_
              intro v6_ hb6_
              obtain ⟨hv6_, _⟩ := hb6_
              obtain rfl : v6_ = (.tuple #[.agg #[.slice p5148 r5146.1.Items.length c5149, .int .i64 r5146.1.Head, .int .i64 r5146.1.Tail], .bool r5146.2] : Value) := hv6_.trans (by kernel_rfl)
              intro R w5184 M5185
              refine W_run 1 [(50, .agg #[.slice p5148 r5146.1.Items.length c5149, .int .i64 r5146.1.Head, .int .i64 r5146.1.Tail])] w5184 (by kernel_rfl) ?_
              exact W_nil (ob_end (.agg #[.slice p5148 r5146.1.Items.length c5149, .int .i64 r5146.1.Head, .int .i64 r5146.1.Tail]) [] rfl (by kernel_rfl) ⟨by kernel_rfl, rfl⟩ M5185)
            · intro g5143 f5144
              intro v5_ hb5_
              obtain ⟨_, p5148, c5149, rfl, _⟩ := hb5_
              intro v6_ hb6_
              obtain ⟨hv6_, _⟩ := hb6_
              obtain rfl : v6_ = (.tuple #[.agg #[.slice p5148 r5146.1.Items.length c5149, .int .i64 r5146.1.Head, .int .i64 r5146.1.Tail], .bool r5146.2] : Value) := hv6_.trans (by kernel_rfl)
              intro R w5188 M5189
              refine W_run 1 [(51, .bool r5146.2)] w5188 (by kernel_rfl) ?_
              exact W_nil (ob_end (.bool r5146.2) [] rfl (by kernel_rfl) ⟨by kernel_rfl, rfl⟩ M5189)
            · intro g5143 f5144
              intro R w5192 M5193
              refine W_new (fun b => .pointer (some ⟨b, 0, none⟩)) (.cells ⟨[.slice none 0 0, .int .i64 0, .int .i64 0]⟩ 27 (0, 0)) M5193 rfl (by kernel_rfl) (by kernel_rfl) ?_
              intro b5154 w5194 M5195
              exact W_nil (ob_end (.pointer (some ⟨b5154, 0, none⟩)) [(b5154, .cells ⟨[.slice none 0 0, .int .i64 0, .int .i64 0]⟩ 27 (0, 0))] rfl (by kernel_rfl) ⟨b5154, rfl, rfl⟩ (Mem.mid M5195))
            · intro g5143 f5144
              intro v5_ hb5_
              obtain ⟨_, p5148, c5149, rfl, _⟩ := hb5_
              intro v7_ hb7_
              obtain ⟨hv7_, _⟩ := hb7_
              obtain rfl : v7_ = (.agg #[.slice p5148 r5146.1.Items.length c5149, .int .i64 r5146.1.Head, .int .i64 r5146.1.Tail] : Value) := hv7_.trans (by kernel_rfl)
              intro v9_ hb9_
              obtain ⟨b5154, rfl, hs9_⟩ := hb9_
              intro R w5196 M5197
              have M5198 : Mem [] w w5196 ([[(b4872, .cells ⟨[.slice none 0 0, .int .i64 0, .int .i64 0]⟩ 27 (0, 0))], [(b4939, .cells ⟨[.slice p5131 s5121.2.1.length c5132, .int .i64 s5121.2.2.1, .int .i64 s5121.2.2.2]⟩ 27 (0, 0))], sg5133] ++ ([[]] ++ ([(g5143 9)] ++ ([] ++ R)))) := M5197
              rw [hs9_] at M5198
              replace M5198 : Mem [] w w5196 ([[(b4872, .cells ⟨[.slice none 0 0, .int .i64 0, .int .i64 0]⟩ 27 (0, 0))], [(b4939, .cells ⟨[.slice p5131 s5121.2.1.length c5132, .int .i64 s5121.2.2.1, .int .i64 s5121.2.2.2]⟩ 27 (0, 0))], sg5133] ++ ([[]] ++ ([[(b5154, .cells ⟨[.slice none 0 0, .int .i64 0, .int .i64 0]⟩ 27 (0, 0))]] ++ ([] ++ R)))) := M5198.permF (by simp)
              refine W_store _ _ _ true 3 b5154 0 [.slice none 0 0, .int .i64 0, .int .i64 0] 27 (.agg #[.slice p5148 r5146.1.Items.length c5149, .int .i64 r5146.1.Head, .int .i64 r5146.1.Tail]) 4 [.slice p5148 r5146.1.Items.length c5149, .int .i64 r5146.1.Head, .int .i64 r5146.1.Tail] M5198 (by kernel_rfl) rfl (by kernel_rfl) (by kernel_rfl) (by kernel_rfl) (by kernel_rfl) (by kernel_rfl) (by kernel_rfl) (by kernel_rfl) (by kernel_rfl) ?_
              intro w5199 M5200
              exact W_nil (ob_none [(b5154, .cells ⟨[.slice p5148 r5146.1.Items.length c5149, .int .i64 r5146.1.Head, .int .i64 r5146.1.Tail]⟩ 27 (0, 0))] rfl ⟨rfl, by kernel_rfl⟩ (Mem.takeOver M5200))
            · intro g5143 f5144
              intro v9_ hb9_
              obtain ⟨_, b5154, rfl, hs9_⟩ := hb9_
              intro v5_ hb5_
              obtain ⟨p5148, c5149, rfl, ho5151⟩ := hb5_
              intro v8_ hb8_
              obtain ⟨rfl, _⟩ := hb8_
              intro v10_ hb10_
              obtain ⟨rfl, hs10_⟩ := hb10_
              replace hs10_ := hs10_.trans (show _ = [(b5154, .cells ⟨[.slice p5148 r5146.1.Items.length c5149, .int .i64 r5146.1.Head, .int .i64 r5146.1.Tail]⟩ 27 (0, 0))] by kernel_rfl)
              intro w5201 M5202
              have M5203 : Mem [] w w5201 [[(b4872, .cells ⟨[.slice none 0 0, .int .i64 0, .int .i64 0]⟩ 27 (0, 0))], [(b4939, .cells ⟨[.slice p5131 s5121.2.1.length c5132, .int .i64 s5121.2.2.1, .int .i64 s5121.2.2.2]⟩ 27 (0, 0))], sg5133, (g5143 5), (g5143 10)] := M5202
              rw [hs10_] at M5203
              refine W_run 1 [(1, .slice p4859 x4857.length c4860), (4, .pointer (some ⟨b4872, 0, none⟩)), (8, .pointer (some ⟨b4939, 0, none⟩)), (9, .int .i64 s5121.1), (10, .pointer (some ⟨b5154, 0, none⟩)), (11, .bool r5146.2)] w5201 (by kernel_rfl) ?_
              refine W_nil ?_
              refine N_then ?_
              refine G_seq ?_
              refine G_seq ?_
              refine G_region ?_
              refine W_run 2 [(1, .slice p4859 x4857.length c4860), (4, .pointer (some ⟨b4872, 0, none⟩)), (8, .pointer (some ⟨b4939, 0, none⟩)), (9, .int .i64 s5121.1), (10, .pointer (some ⟨b5154, 0, none⟩)), (53, .bool (!r5146.2))] w5201 (by kernel_rfl) ?_
              refine W_nil ?_
              refine N_then ?_
              rcases gx_bif hm with ⟨hc5204, hm⟩ | ⟨hc5204, hm⟩
              · refine G_cond_t (b := (!r5146.2)) hc5204 (by kernel_rfl) ?_
                refine G_seq ?_
                refine G_region ?_
                refine W_val (.agg #[.slice p5131 s5121.2.1.length c5132, .int .i64 s5121.2.2.1, .int .i64 s5121.2.2.2]) w5201 (by kernel_rfl) (E_load (e := 27) (fr := (0, 0)) _ _ true 3 b4939 0 [.slice p5131 s5121.2.1.length c5132, .int .i64 s5121.2.2.1, .int .i64 s5121.2.2.2] (.agg #[.slice p5131 s5121.2.1.length c5132, .int .i64 s5121.2.2.1, .int .i64 s5121.2.2.2]) rfl (by kernel_rfl) (by kernel_rfl) (by kernel_rfl) (M5203.blk 1 (b := b4939) (o := .cells ⟨[.slice p5131 s5121.2.1.length c5132, .int .i64 s5121.2.2.1, .int .i64 s5121.2.2.2]⟩ 27 (0, 0)) (by kernel_rfl))) ?_
                refine W_run 1 [(4, .pointer (some ⟨b4872, 0, none⟩)), (54, .agg #[.slice p5131 s5121.2.1.length c5132, .int .i64 s5121.2.2.1, .int .i64 s5121.2.2.2]), (55, .int .i64 s5121.1)] w5201 (by kernel_rfl) ?_
                refine W_store _ _ _ true 3 b4872 0 [.slice none 0 0, .int .i64 0, .int .i64 0] 27 (.agg #[.slice p5131 s5121.2.1.length c5132, .int .i64 s5121.2.2.1, .int .i64 s5121.2.2.2]) 0 [.slice p5131 s5121.2.1.length c5132, .int .i64 s5121.2.2.1, .int .i64 s5121.2.2.2] M5203 (by kernel_rfl) rfl (by kernel_rfl) (by kernel_rfl) (by kernel_rfl) (by kernel_rfl) (by kernel_rfl) (by kernel_rfl) (by kernel_rfl) (by kernel_rfl) ?_
                intro w5205 M5206
                refine W_run 2 [(4, .pointer (some ⟨b4872, 0, none⟩)), (5, .int .i64 s5121.1), (6, .bool true)] w5205 (by kernel_rfl) ?_
                refine W_nil ?_
                refine N_then ?_
                refine G_ret ?_
                refine N_then_ret ?_
                refine N_block_ret ?_
                refine N_then_ret ?_
                refine N_then_ret ?_
                obtain rfl := Option.some.inj hm
                obtain rfl := hout5123 _ rfl
                have hm := hmo5130; simp only [Sum.elim_inr] at hm
                refine N_block_ret ?_
                refine N_meet_ret ?_
                refine N_then_ret ?_
                obtain rfl := Option.some.inj hm
                refine N_ret [.agg #[.slice p5131 s5121.2.1.length c5132, .int .i64 s5121.2.2.1, .int .i64 s5121.2.2.2], .int .i64 s5121.1, .bool true] (RVs_cons (RV_cell (g := true) (k := 3) (b := b4872) (off := 0) (cs := [.slice p5131 s5121.2.1.length c5132, .int .i64 s5121.2.2.1, .int .i64 s5121.2.2.2]) (e := 27) (fr := (0, 0)) (v := .agg #[.slice p5131 s5121.2.1.length c5132, .int .i64 s5121.2.2.1, .int .i64 s5121.2.2.2]) (M5206.blk 0 (b := b4872) (o := .cells ⟨[.slice p5131 s5121.2.1.length c5132, .int .i64 s5121.2.2.1, .int .i64 s5121.2.2.2]⟩ 27 (0, 0)) (by kernel_rfl)) (by kernel_rfl) (by kernel_rfl) (by kernel_rfl)) (RVs_cons (RV_tmp (by kernel_rfl)) (RVs_cons (RV_tmp (by kernel_rfl)) RVs_nil))) ?_
                exact ⟨p5131, c5132, sg5133, rfl, ho5134, M5206.pick [2] (by kernel_rfl)⟩
              · refine G_cond_f (b := (!r5146.2)) hc5204 (by kernel_rfl) ?_
                refine G_skip ?_
                refine N_then ?_
                refine G_region ?_
                refine W_val (.agg #[.slice p5148 r5146.1.Items.length c5149, .int .i64 r5146.1.Head, .int .i64 r5146.1.Tail]) w5201 (by kernel_rfl) (E_load (e := 27) (fr := (0, 0)) _ _ true 3 b5154 0 [.slice p5148 r5146.1.Items.length c5149, .int .i64 r5146.1.Head, .int .i64 r5146.1.Tail] (.agg #[.slice p5148 r5146.1.Items.length c5149, .int .i64 r5146.1.Head, .int .i64 r5146.1.Tail]) rfl (by kernel_rfl) (by kernel_rfl) (by kernel_rfl) (M5203.blk 4 (b := b5154) (o := .cells ⟨[.slice p5148 r5146.1.Items.length c5149, .int .i64 r5146.1.Head, .int .i64 r5146.1.Tail]⟩ 27 (0, 0)) (by kernel_rfl))) ?_
                refine W_store _ _ _ true 3 b4939 0 [.slice p5131 s5121.2.1.length c5132, .int .i64 s5121.2.2.1, .int .i64 s5121.2.2.2] 27 (.agg #[.slice p5148 r5146.1.Items.length c5149, .int .i64 r5146.1.Head, .int .i64 r5146.1.Tail]) 1 [.slice p5148 r5146.1.Items.length c5149, .int .i64 r5146.1.Head, .int .i64 r5146.1.Tail] M5203 (by kernel_rfl) rfl (by kernel_rfl) (by kernel_rfl) (by kernel_rfl) (by kernel_rfl) (by kernel_rfl) (by kernel_rfl) (by kernel_rfl) (by kernel_rfl) ?_
                intro w5207 M5208
                refine W_nil ?_
                refine N_block ?_
                refine N_then ?_
                refine G_region ?_
                refine W_run 3 [(1, .slice p4859 x4857.length c4860), (4, .pointer (some ⟨b4872, 0, none⟩)), (8, .pointer (some ⟨b4939, 0, none⟩)), (9, .int .i64 (w64 (s5121.1 + 1)))] w5207 (by kernel_rfl) ?_
                refine W_nil ?_
                obtain rfl := Option.some.inj hm
                exact N_loop fun a ha => ⟨_, rfl, p5148, c5149, (g5143 5), ho5151, M5208.pick [0, 1, 3] (by kernel_rfl), ha.sub (by kernel_rfl)⟩
          · refine G_cond_f (b := (decide (s5121.1 < (x4857.length : Int)))) hc5142 (by kernel_rfl) ?_
            refine G_exit ?_
            refine N_then_exit ?_
            refine N_then_exit ?_
            refine N_block_eq ?_
            obtain rfl := Option.some.inj hm
            obtain rfl := hout5123 _ rfl
            exact N_meet fun a ha => ⟨_, p5131, c5132, sg5133, ho5134, rfl, M5126.pick [0, 1, 2] (by kernel_rfl), ha.sub (by kernel_rfl)⟩
        · intro a5209 w5210 ⟨o5136, p5137, c5138, sg5139, ho5140, hout_, M5211, hS5212⟩
          refine N_use hS5212 ?_
          subst hout_
          have hm := hmo5130; simp only [Sum.elim_inl] at hm
          refine N_then ?_
          refine G_seq ?_
          refine G_region ?_
          refine W_val (.agg #[.slice p5137 o5136.1.length c5138, .int .i64 o5136.2.1, .int .i64 o5136.2.2]) w5210 (by kernel_rfl) (E_load (e := 27) (fr := (0, 0)) _ _ true 3 b4939 0 [.slice p5137 o5136.1.length c5138, .int .i64 o5136.2.1, .int .i64 o5136.2.2] (.agg #[.slice p5137 o5136.1.length c5138, .int .i64 o5136.2.1, .int .i64 o5136.2.2]) rfl (by kernel_rfl) (by kernel_rfl) (by kernel_rfl) (M5211.blk 1 (b := b4939) (o := .cells ⟨[.slice p5137 o5136.1.length c5138, .int .i64 o5136.2.1, .int .i64 o5136.2.2]⟩ 27 (0, 0)) (by kernel_rfl))) ?_
          refine W_run 2 [(4, .pointer (some ⟨b4872, 0, none⟩)), (57, .agg #[.slice p5137 o5136.1.length c5138, .int .i64 o5136.2.1, .int .i64 o5136.2.2]), (59, .int .i64 (x4857.length : Int))] w5210 (by kernel_rfl) ?_
          refine W_store _ _ _ true 3 b4872 0 [.slice none 0 0, .int .i64 0, .int .i64 0] 27 (.agg #[.slice p5137 o5136.1.length c5138, .int .i64 o5136.2.1, .int .i64 o5136.2.2]) 0 [.slice p5137 o5136.1.length c5138, .int .i64 o5136.2.1, .int .i64 o5136.2.2] M5211 (by kernel_rfl) rfl (by kernel_rfl) (by kernel_rfl) (by kernel_rfl) (by kernel_rfl) (by kernel_rfl) (by kernel_rfl) (by kernel_rfl) (by kernel_rfl) ?_
          intro w5213 M5214
          refine W_run 2 [(4, .pointer (some ⟨b4872, 0, none⟩)), (5, .int .i64 (x4857.length : Int)), (6, .bool true)] w5213 (by kernel_rfl) ?_
          refine W_nil ?_
          refine N_then ?_
          refine G_ret ?_
          obtain rfl := Option.some.inj hm
          refine N_ret [.agg #[.slice p5137 o5136.1.length c5138, .int .i64 o5136.2.1, .int .i64 o5136.2.2], .int .i64 (x4857.length : Int), .bool true] (RVs_cons (RV_cell (g := true) (k := 3) (b := b4872) (off := 0) (cs := [.slice p5137 o5136.1.length c5138, .int .i64 o5136.2.1, .int .i64 o5136.2.2]) (e := 27) (fr := (0, 0)) (v := .agg #[.slice p5137 o5136.1.length c5138, .int .i64 o5136.2.1, .int .i64 o5136.2.2]) (M5214.blk 0 (b := b4872) (o := .cells ⟨[.slice p5137 o5136.1.length c5138, .int .i64 o5136.2.1, .int .i64 o5136.2.2]⟩ 27 (0, 0)) (by kernel_rfl)) (by kernel_rfl) (by kernel_rfl) (by kernel_rfl)) (RVs_cons (RV_tmp (by kernel_rfl)) (RVs_cons (RV_tmp (by kernel_rfl)) RVs_nil))) ?_
          exact ⟨p5137, c5138, sg5139, rfl, ho5140, M5214.pick [2] (by kernel_rfl)⟩
theorem c_l_FnExactPutWords (w : World) (x4814 : Ring) (p4816 : Option Addr) (c4817 : Nat) (h4818 : rdS encI w x4814.Items p4816 c4817) (x4819 : List Int) (p4821 : Option Addr) (c4822 : Nat) (h4823 : rdS encI w x4819 p4821 c4822) {r : Bool} (hm : M.l_FnExactPutWords x4814 x4819 = some r) :
    Calls Try.prog 11 #[.agg #[.slice p4816 x4814.Items.length c4817, .int .i64 x4814.Head, .int .i64 x4814.Tail], .slice p4821 x4819.length c4822] w fun e w' => e = .returned (.bool r) ∧ Mem [] w w' [] := by
  unfold M.l_FnExactPutWords at hm
  refine C_enter Try.func11 rfl (by kernel_rfl) ?_
  have M0 := Mem.refl [] w
  refine G_seq ?_
  refine G_region ?_
  refine W_new (fun b => .pointer (some ⟨b, 0, none⟩)) (.cells ⟨[.slice p4816 x4814.Items.length c4817, .int .i64 x4814.Head, .int .i64 x4814.Tail]⟩ 33 (0, 0)) M0 rfl (by kernel_rfl) (by kernel_rfl) ?_
  intro b4825 w4826 M4827
  refine W_run 1 [(1, .slice p4821 x4819.length c4822), (2, .pointer (some ⟨b4825, 0, none⟩))] w4826 (by kernel_rfl) ?_
  refine W_nil ?_
  refine N_then ?_
  refine G_seq ?_
  refine G_seq ?_
  refine G_region ?_
  refine W_run 3 [(1, .slice p4821 x4819.length c4822), (2, .pointer (some ⟨b4825, 0, none⟩)), (22, .bool (decide ((x4819.length : Int) > 1048576)))] w4826 (by kernel_rfl) ?_
  refine W_nil ?_
  refine N_then ?_
  rcases gx_bif hm with ⟨hc4828, hm⟩ | ⟨hc4828, hm⟩
  · refine G_cond_t (b := (decide ((x4819.length : Int) > 1048576))) hc4828 (by kernel_rfl) ?_
    refine G_seq ?_
    refine G_region ?_
    refine W_run 1 [(4, .bool true)] w4826 (by kernel_rfl) ?_
    refine W_nil ?_
    refine N_then ?_
    refine G_ret ?_
    refine N_then_ret ?_
    obtain rfl := Option.some.inj hm
    refine N_ret [.bool true] (RVs_cons (RV_tmp (by kernel_rfl)) RVs_nil) ?_
    exact ⟨rfl, M4827.pick [] (by kernel_rfl)⟩
  · refine G_cond_f (b := (decide ((x4819.length : Int) > 1048576))) hc4828 (by kernel_rfl) ?_
    refine G_skip ?_
    refine N_then ?_
    refine G_seq ?_
    refine G_region ?_
    refine W_run 1 [(1, .slice p4821 x4819.length c4822), (2, .pointer (some ⟨b4825, 0, none⟩)), (5, .int .i64 1048576)] w4826 (by kernel_rfl) ?_
    refine W_nil ?_
    refine N_then ?_
    refine G_seq ?_
    refine G_region ?_
    refine W_val (.agg #[.slice p4816 x4814.Items.length c4817, .int .i64 x4814.Head, .int .i64 x4814.Tail]) w4826 (by kernel_rfl) (E_load (e := 33) (fr := (0, 0)) _ _ true 3 b4825 0 [.slice p4816 x4814.Items.length c4817, .int .i64 x4814.Head, .int .i64 x4814.Tail] (.agg #[.slice p4816 x4814.Items.length c4817, .int .i64 x4814.Head, .int .i64 x4814.Tail]) rfl (by kernel_rfl) (by kernel_rfl) (by kernel_rfl) (M4827.blk 0 (b := b4825) (o := .cells ⟨[.slice p4816 x4814.Items.length c4817, .int .i64 x4814.Head, .int .i64 x4814.Tail]⟩ 33 (0, 0)) (by kernel_rfl))) ?_
    refine W_run 1 [(1, .slice p4821 x4819.length c4822), (2, .pointer (some ⟨b4825, 0, none⟩)), (5, .int .i64 1048576), (23, .agg #[.slice p4816 x4814.Items.length c4817, .int .i64 x4814.Head, .int .i64 x4814.Tail]), (24, .int .i64 1048576)] w4826 (by kernel_rfl) ?_
    obtain ⟨r4829, hr4829, hm⟩ := gx_bind hm
    refine W_call 21 #[.agg #[.slice p4816 x4814.Items.length c4817, .int .i64 x4814.Head, .int .i64 x4814.Tail], .int .i64 1048576] (by kernel_rfl) (by kernel_rfl) ?_
    refine (c_l_szRing w4826 x4814 p4816 c4817 (h4818.mem0 M4827) 1048576 hr4829).mono ?_
    rintro e_ w4830 ⟨rfl, K4831⟩
    have M4832 := M4827.call0 K4831
    refine ⟨_, rfl, ?_⟩
    refine W_run 1 [(1, .slice p4821 x4819.length c4822), (2, .pointer (some ⟨b4825, 0, none⟩)), (5, .int .i64 r4829)] w4830 (by kernel_rfl) ?_
    refine W_nil ?_
    refine N_then ?_
    refine G_seq ?_
    refine G_seq ?_
    refine G_region ?_
    refine W_run 2 [(1, .slice p4821 x4819.length c4822), (2, .pointer (some ⟨b4825, 0, none⟩)), (27, .bool (decide (r4829 < 0)))] w4830 (by kernel_rfl) ?_
    refine W_nil ?_
    refine N_then ?_
    rcases gx_bif hm with ⟨hc4833, hm⟩ | ⟨hc4833, hm⟩
    · refine G_cond_t (b := (decide (r4829 < 0))) hc4833 (by kernel_rfl) ?_
      refine G_seq ?_
      refine G_region ?_
      refine W_run 1 [(4, .bool true)] w4830 (by kernel_rfl) ?_
      refine W_nil ?_
      refine N_then ?_
      refine G_ret ?_
      refine N_then_ret ?_
      obtain rfl := Option.some.inj hm
      refine N_ret [.bool true] (RVs_cons (RV_tmp (by kernel_rfl)) RVs_nil) ?_
      exact ⟨rfl, M4832.pick [] (by kernel_rfl)⟩
    · refine G_cond_f (b := (decide (r4829 < 0))) hc4833 (by kernel_rfl) ?_
      refine G_skip ?_
      refine N_then ?_
      refine G_seq ?_
      refine G_region ?_
      refine W_val (.agg #[.slice p4816 x4814.Items.length c4817, .int .i64 x4814.Head, .int .i64 x4814.Tail]) w4830 (by kernel_rfl) (E_load (e := 33) (fr := (0, 0)) _ _ true 3 b4825 0 [.slice p4816 x4814.Items.length c4817, .int .i64 x4814.Head, .int .i64 x4814.Tail] (.agg #[.slice p4816 x4814.Items.length c4817, .int .i64 x4814.Head, .int .i64 x4814.Tail]) rfl (by kernel_rfl) (by kernel_rfl) (by kernel_rfl) (M4832.blk 0 (b := b4825) (o := .cells ⟨[.slice p4816 x4814.Items.length c4817, .int .i64 x4814.Head, .int .i64 x4814.Tail]⟩ 33 (0, 0)) (by kernel_rfl))) ?_
      obtain ⟨r4834, hr4834, hm⟩ := gx_bind hm
      refine W_call 23 #[.agg #[.slice p4816 x4814.Items.length c4817, .int .i64 x4814.Head, .int .i64 x4814.Tail]] (by kernel_rfl) (by kernel_rfl) ?_
      refine (c_l_toRing w4830 x4814 p4816 c4817 (h4818.mem0 M4832) hr4834).mono ?_
      rintro e_ w4840 ⟨p4836, c4837, sg4838, rfl, ho4839, K4841⟩
      have M4842 := M4832.call K4841
      refine ⟨_, rfl, ?_⟩
      refine W_run 1 [(1, .slice p4821 x4819.length c4822), (2, .pointer (some ⟨b4825, 0, none⟩)), (30, .agg #[.slice p4836 r4834.Items.length c4837, .int .i64 r4834.Head, .int .i64 r4834.Tail]), (31, .slice p4821 x4819.length c4822)] w4840 (by kernel_rfl) ?_
      obtain ⟨r4843, hr4843, hm⟩ := gx_bind hm
      refine W_call 39 #[.slice p4821 x4819.length c4822] (by kernel_rfl) (by kernel_rfl) ?_
      refine (c_l_toIntS w4840 x4819 p4821 c4822 (h4823.mem0 M4842) hr4843).mono ?_
      rintro e_ w4849 ⟨p4845, c4846, sg4847, rfl, ho4848, K4850⟩
      have M4851 := M4842.call K4850
      refine ⟨_, rfl, ?_⟩
      obtain ⟨r5215, hr5215, hm⟩ := gx_bind hm
      refine W_call 38 #[.agg #[.slice p4836 r4834.Items.length c4837, .int .i64 r4834.Head, .int .i64 r4834.Tail], .slice p4845 r4843.length c4846] (by kernel_rfl) (by kernel_rfl) ?_
      refine (c_s_PutWords w4849 r4834 p4836 c4837 (ho4839.rd M4851 1 (by kernel_rfl)) r4843 p4845 c4846 (ho4848.rd M4851 2 (by kernel_rfl)) hr5215).mono ?_
      rintro e_ w5221 ⟨p5217, c5218, sg5219, rfl, ho5220, K5222⟩
      have M5223 := M4851.call K5222
      refine ⟨_, rfl, ?_⟩
      refine W_run 4 [(1, .slice p4821 x4819.length c4822), (2, .pointer (some ⟨b4825, 0, none⟩)), (34, .agg #[.slice p5217 r5215.1.Items.length c5218, .int .i64 r5215.1.Head, .int .i64 r5215.1.Tail]), (35, .int .i64 r5215.2.1), (36, .bool r5215.2.2)] w5221 (by kernel_rfl) ?_
      refine W_new (fun b => .pointer (some ⟨b, 0, none⟩)) (.cells ⟨[.slice none 0 0, .int .i64 0, .int .i64 0]⟩ 27 (0, 0)) M5223 rfl (by kernel_rfl) (by kernel_rfl) ?_
      intro b5226 w5227 M5228
      refine W_store _ _ _ true 3 b5226 0 [.slice none 0 0, .int .i64 0, .int .i64 0] 27 (.agg #[.slice p5217 r5215.1.Items.length c5218, .int .i64 r5215.1.Head, .int .i64 r5215.1.Tail]) 4 [.slice p5217 r5215.1.Items.length c5218, .int .i64 r5215.1.Head, .int .i64 r5215.1.Tail] M5228 (by kernel_rfl) rfl (by kernel_rfl) (by kernel_rfl) (by kernel_rfl) (by kernel_rfl) (by kernel_rfl) (by kernel_rfl) (by kernel_rfl) (by kernel_rfl) ?_
      intro w5229 M5230
      refine W_run 2 [(1, .slice p4821 x4819.length c4822), (2, .pointer (some ⟨b4825, 0, none⟩)), (6, .pointer (some ⟨b5226, 0, none⟩)), (7, .int .i64 r5215.2.1), (8, .bool r5215.2.2)] w5229 (by kernel_rfl) ?_
      refine W_nil ?_
      refine N_then ?_
      refine G_seq ?_
      refine G_region ?_
      refine W_val (.agg #[.slice p4816 x4814.Items.length c4817, .int .i64 x4814.Head, .int .i64 x4814.Tail]) w5229 (by kernel_rfl) (E_load (e := 33) (fr := (0, 0)) _ _ true 3 b4825 0 [.slice p4816 x4814.Items.length c4817, .int .i64 x4814.Head, .int .i64 x4814.Tail] (.agg #[.slice p4816 x4814.Items.length c4817, .int .i64 x4814.Head, .int .i64 x4814.Tail]) rfl (by kernel_rfl) (by kernel_rfl) (by kernel_rfl) (M5230.blk 0 (b := b4825) (o := .cells ⟨[.slice p4816 x4814.Items.length c4817, .int .i64 x4814.Head, .int .i64 x4814.Tail]⟩ 33 (0, 0)) (by kernel_rfl))) ?_
      obtain ⟨r5231, hr5231, hm⟩ := gx_bind hm
      refine W_call 23 #[.agg #[.slice p4816 x4814.Items.length c4817, .int .i64 x4814.Head, .int .i64 x4814.Tail]] (by kernel_rfl) (by kernel_rfl) ?_
      refine (c_l_toRing w5229 x4814 p4816 c4817 (h4818.mem0 M5230) hr5231).mono ?_
      rintro e_ w5237 ⟨p5233, c5234, sg5235, rfl, ho5236, K5238⟩
      have M5239 := M5230.call K5238
      refine ⟨_, rfl, ?_⟩
      refine W_new (fun b => .pointer (some ⟨b, 0, none⟩)) (.cells ⟨[.slice none 0 0, .int .i64 0, .int .i64 0]⟩ 27 (0, 0)) M5239 rfl (by kernel_rfl) (by kernel_rfl) ?_
      intro b5242 w5243 M5244
      refine W_store _ _ _ true 3 b5242 0 [.slice none 0 0, .int .i64 0, .int .i64 0] 27 (.agg #[.slice p5233 r5231.Items.length c5234, .int .i64 r5231.Head, .int .i64 r5231.Tail]) 6 [.slice p5233 r5231.Items.length c5234, .int .i64 r5231.Head, .int .i64 r5231.Tail] M5244 (by kernel_rfl) rfl (by kernel_rfl) (by kernel_rfl) (by kernel_rfl) (by kernel_rfl) (by kernel_rfl) (by kernel_rfl) (by kernel_rfl) (by kernel_rfl) ?_
      intro w5245 M5246
      refine W_nil ?_
      refine N_then ?_
      refine G_seq ?_
      refine G_region ?_
      refine W_run 1 [(1, .slice p4821 x4819.length c4822), (2, .pointer (some ⟨b4825, 0, none⟩)), (6, .pointer (some ⟨b5226, 0, none⟩)), (7, .int .i64 r5215.2.1), (8, .bool r5215.2.2), (9, .pointer (some ⟨b5242, 0, none⟩)), (39, .slice p4821 x4819.length c4822)] w5245 (by kernel_rfl) ?_
      obtain ⟨r5247, hr5247, hm⟩ := gx_bind hm
      refine W_call 39 #[.slice p4821 x4819.length c4822] (by kernel_rfl) (by kernel_rfl) ?_
      refine (c_l_toIntS w5245 x4819 p4821 c4822 (h4823.mem0 M5246) hr5247).mono ?_
      rintro e_ w5253 ⟨p5249, c5250, sg5251, rfl, ho5252, K5254⟩
      have M5255 := M5246.call K5254
      refine ⟨_, rfl, ?_⟩
      refine W_run 1 [(1, .slice p4821 x4819.length c4822), (2, .pointer (some ⟨b4825, 0, none⟩)), (6, .pointer (some ⟨b5226, 0, none⟩)), (7, .int .i64 r5215.2.1), (8, .bool r5215.2.2), (9, .pointer (some ⟨b5242, 0, none⟩)), (10, .slice p5249 r5247.length c5250)] w5253 (by kernel_rfl) ?_
      refine W_nil ?_
      refine N_then ?_
      refine G_seq ?_
      refine G_region ?_
      refine W_val (.agg #[.slice p5233 r5231.Items.length c5234, .int .i64 r5231.Head, .int .i64 r5231.Tail]) w5253 (by kernel_rfl) (E_load (e := 27) (fr := (0, 0)) _ _ true 3 b5242 0 [.slice p5233 r5231.Items.length c5234, .int .i64 r5231.Head, .int .i64 r5231.Tail] (.agg #[.slice p5233 r5231.Items.length c5234, .int .i64 r5231.Head, .int .i64 r5231.Tail]) rfl (by kernel_rfl) (by kernel_rfl) (by kernel_rfl) (M5255.blk 6 (b := b5242) (o := .cells ⟨[.slice p5233 r5231.Items.length c5234, .int .i64 r5231.Head, .int .i64 r5231.Tail]⟩ 27 (0, 0)) (by kernel_rfl))) ?_
      refine W_run 1 [(1, .slice p4821 x4819.length c4822), (2, .pointer (some ⟨b4825, 0, none⟩)), (6, .pointer (some ⟨b5226, 0, none⟩)), (7, .int .i64 r5215.2.1), (8, .bool r5215.2.2), (9, .pointer (some ⟨b5242, 0, none⟩)), (10, .slice p5249 r5247.length c5250), (42, .agg #[.slice p5233 r5231.Items.length c5234, .int .i64 r5231.Head, .int .i64 r5231.Tail]), (43, .slice p5249 r5247.length c5250)] w5253 (by kernel_rfl) ?_
      obtain ⟨r5256, hr5256, hm⟩ := gx_bind hm
      refine W_call 40 #[.agg #[.slice p5233 r5231.Items.length c5234, .int .i64 r5231.Head, .int .i64 r5231.Tail], .slice p5249 r5247.length c5250] (by kernel_rfl) (by kernel_rfl) ?_
      refine (c_i_PutWords w5253 r5231 p5233 c5234 (ho5236.rd M5255 5 (by kernel_rfl)) r5247 p5249 c5250 (ho5252.rd M5255 7 (by kernel_rfl)) hr5256).mono ?_
      rintro e_ w5262 ⟨p5258, c5259, sg5260, rfl, ho5261, K5263⟩
      have M5264 := M5255.call K5263
      refine ⟨_, rfl, ?_⟩
      refine W_run 4 [(1, .slice p4821 x4819.length c4822), (2, .pointer (some ⟨b4825, 0, none⟩)), (6, .pointer (some ⟨b5226, 0, none⟩)), (7, .int .i64 r5215.2.1), (8, .bool r5215.2.2), (9, .pointer (some ⟨b5242, 0, none⟩)), (10, .slice p5249 r5247.length c5250), (45, .agg #[.slice p5258 r5256.1.Items.length c5259, .int .i64 r5256.1.Head, .int .i64 r5256.1.Tail]), (46, .int .i64 r5256.2.1), (47, .bool r5256.2.2)] w5262 (by kernel_rfl) ?_
      refine W_new (fun b => .pointer (some ⟨b, 0, none⟩)) (.cells ⟨[.slice none 0 0, .int .i64 0, .int .i64 0]⟩ 27 (0, 0)) M5264 rfl (by kernel_rfl) (by kernel_rfl) ?_
      intro b5267 w5268 M5269
      refine W_store _ _ _ true 3 b5267 0 [.slice none 0 0, .int .i64 0, .int .i64 0] 27 (.agg #[.slice p5258 r5256.1.Items.length c5259, .int .i64 r5256.1.Head, .int .i64 r5256.1.Tail]) 9 [.slice p5258 r5256.1.Items.length c5259, .int .i64 r5256.1.Head, .int .i64 r5256.1.Tail] M5269 (by kernel_rfl) rfl (by kernel_rfl) (by kernel_rfl) (by kernel_rfl) (by kernel_rfl) (by kernel_rfl) (by kernel_rfl) (by kernel_rfl) (by kernel_rfl) ?_
      intro w5270 M5271
      refine W_run 2 [(1, .slice p4821 x4819.length c4822), (2, .pointer (some ⟨b4825, 0, none⟩)), (6, .pointer (some ⟨b5226, 0, none⟩)), (7, .int .i64 r5215.2.1), (8, .bool r5215.2.2), (9, .pointer (some ⟨b5242, 0, none⟩)), (10, .slice p5249 r5247.length c5250), (11, .pointer (some ⟨b5267, 0, none⟩)), (12, .int .i64 r5256.2.1), (13, .bool r5256.2.2)] w5270 (by kernel_rfl) ?_
      refine W_nil ?_
      refine N_then ?_
      refine G_seq ?_
      refine G_seq ?_
      obtain ⟨o5278, ho5279, hm5280⟩ := gx_bind hm
      refine G_meet (fun a w' => Mem [] w w' [[(b4825, .cells ⟨[.slice p4816 x4814.Items.length c4817, .int .i64 x4814.Head, .int .i64 x4814.Tail]⟩ 33 (0, 0))], sg5219, [(b5226, .cells ⟨[.slice p5217 r5215.1.Items.length c5218, .int .i64 r5215.1.Head, .int .i64 r5215.1.Tail]⟩ 27 (0, 0))], sg5235, [(b5242, .cells ⟨[.slice p5233 r5231.Items.length c5234, .int .i64 r5231.Head, .int .i64 r5231.Tail]⟩ 27 (0, 0))], sg5251, sg5260, [(b5267, .cells ⟨[.slice p5258 r5256.1.Items.length c5259, .int .i64 r5256.1.Head, .int .i64 r5256.1.Tail]⟩ 27 (0, 0))]] ∧ Sat Try.f11.ntmps [(1, .slice p4821 x4819.length c4822), (2, .pointer (some ⟨b4825, 0, none⟩)), (6, .pointer (some ⟨b5226, 0, none⟩)), (7, .int .i64 r5215.2.1), (8, .bool r5215.2.2), (9, .pointer (some ⟨b5242, 0, none⟩)), (10, .slice p5249 r5247.length c5250), (11, .pointer (some ⟨b5267, 0, none⟩)), (12, .int .i64 r5256.2.1), (13, .bool r5256.2.2), (61, .bool o5278)] a) ?_ ?_
      · have hm := ho5279
        refine G_region ?_
        refine W_val (.agg #[.slice p5258 r5256.1.Items.length c5259, .int .i64 r5256.1.Head, .int .i64 r5256.1.Tail]) w5270 (by kernel_rfl) (E_load (e := 27) (fr := (0, 0)) _ _ true 3 b5267 0 [.slice p5258 r5256.1.Items.length c5259, .int .i64 r5256.1.Head, .int .i64 r5256.1.Tail] (.agg #[.slice p5258 r5256.1.Items.length c5259, .int .i64 r5256.1.Head, .int .i64 r5256.1.Tail]) rfl (by kernel_rfl) (by kernel_rfl) (by kernel_rfl) (M5271.blk 9 (b := b5267) (o := .cells ⟨[.slice p5258 r5256.1.Items.length c5259, .int .i64 r5256.1.Head, .int .i64 r5256.1.Tail]⟩ 27 (0, 0)) (by kernel_rfl))) ?_
        refine W_val (.agg #[.slice p5217 r5215.1.Items.length c5218, .int .i64 r5215.1.Head, .int .i64 r5215.1.Tail]) w5270 (by kernel_rfl) (E_load (e := 27) (fr := (0, 0)) _ _ true 3 b5226 0 [.slice p5217 r5215.1.Items.length c5218, .int .i64 r5215.1.Head, .int .i64 r5215.1.Tail] (.agg #[.slice p5217 r5215.1.Items.length c5218, .int .i64 r5215.1.Head, .int .i64 r5215.1.Tail]) rfl (by kernel_rfl) (by kernel_rfl) (by kernel_rfl) (M5271.blk 4 (b := b5226) (o := .cells ⟨[.slice p5217 r5215.1.Items.length c5218, .int .i64 r5215.1.Head, .int .i64 r5215.1.Tail]⟩ 27 (0, 0)) (by kernel_rfl))) ?_
        obtain ⟨r5281, hr5281, hm⟩ := gx_bind hm
        refine W_call 18 #[.agg #[.slice p5258 r5256.1.Items.length c5259, .int .i64 r5256.1.Head, .int .i64 r5256.1.Tail], .agg #[.slice p5217 r5215.1.Items.length c5218, .int .i64 r5215.1.Head, .int .i64 r5215.1.Tail]] (by kernel_rfl) (by kernel_rfl) ?_
        refine (c_l_eqRing w5270 r5256.1 p5258 c5259 (ho5261.rd M5271 8 (by kernel_rfl)) r5215.1 p5217 c5218 (ho5220.rd M5271 3 (by kernel_rfl)) hr5281).mono ?_
        rintro e_ w5282 ⟨rfl, K5283⟩
        have M5284 := M5271.call0 K5283
        refine ⟨_, rfl, ?_⟩
        refine W_run 2 [(1, .slice p4821 x4819.length c4822), (2, .pointer (some ⟨b4825, 0, none⟩)), (6, .pointer (some ⟨b5226, 0, none⟩)), (7, .int .i64 r5215.2.1), (8, .bool r5215.2.2), (9, .pointer (some ⟨b5242, 0, none⟩)), (10, .slice p5249 r5247.length c5250), (11, .pointer (some ⟨b5267, 0, none⟩)), (12, .int .i64 r5256.2.1), (13, .bool r5256.2.2), (52, .bool (!r5281))] w5282 (by kernel_rfl) ?_
        rcases gx_bif hm with ⟨hc5285, hm⟩ | ⟨hc5285, hm⟩
        · refine W_known 52 true (by kernel_rfl) hc5285 ?_
          refine W_run 9 [(1, .slice p4821 x4819.length c4822), (2, .pointer (some ⟨b4825, 0, none⟩)), (6, .pointer (some ⟨b5226, 0, none⟩)), (7, .int .i64 r5215.2.1), (8, .bool r5215.2.2), (9, .pointer (some ⟨b5242, 0, none⟩)), (10, .slice p5249 r5247.length c5250), (11, .pointer (some ⟨b5267, 0, none⟩)), (12, .int .i64 r5256.2.1), (13, .bool r5256.2.2), (61, .bool true)] w5282 (by kernel_rfl) ?_
          refine W_nil ?_
          obtain rfl := Option.some.inj hm
          exact N_meet fun a ha => ⟨M5284.pick [0, 3, 4, 5, 6, 7, 8, 9] (by kernel_rfl), ha.sub (by kernel_rfl)⟩
        · refine W_known 52 false (by kernel_rfl) hc5285 ?_
          refine W_run 5 [(1, .slice p4821 x4819.length c4822), (2, .pointer (some ⟨b4825, 0, none⟩)), (6, .pointer (some ⟨b5226, 0, none⟩)), (7, .int .i64 r5215.2.1), (8, .bool r5215.2.2), (9, .pointer (some ⟨b5242, 0, none⟩)), (10, .slice p5249 r5247.length c5250), (11, .pointer (some ⟨b5267, 0, none⟩)), (12, .int .i64 r5256.2.1), (13, .bool r5256.2.2), (57, .bool (r5256.2.1 != r5215.2.1))] w5282 (by kernel_rfl) ?_
          rcases gx_bif hm with ⟨hc5286, hm⟩ | ⟨hc5286, hm⟩
          · refine W_known 57 true (by kernel_rfl) hc5286 ?_
            refine W_run 4 [(1, .slice p4821 x4819.length c4822), (2, .pointer (some ⟨b4825, 0, none⟩)), (6, .pointer (some ⟨b5226, 0, none⟩)), (7, .int .i64 r5215.2.1), (8, .bool r5215.2.2), (9, .pointer (some ⟨b5242, 0, none⟩)), (10, .slice p5249 r5247.length c5250), (11, .pointer (some ⟨b5267, 0, none⟩)), (12, .int .i64 r5256.2.1), (13, .bool r5256.2.2), (61, .bool true)] w5282 (by kernel_rfl) ?_
            refine W_nil ?_
            obtain rfl := Option.some.inj hm
            exact N_meet fun a ha => ⟨M5284.pick [0, 3, 4, 5, 6, 7, 8, 9] (by kernel_rfl), ha.sub (by kernel_rfl)⟩
          · refine W_known 57 false (by kernel_rfl) hc5286 ?_
            refine W_run 4 [(1, .slice p4821 x4819.length c4822), (2, .pointer (some ⟨b4825, 0, none⟩)), (6, .pointer (some ⟨b5226, 0, none⟩)), (7, .int .i64 r5215.2.1), (8, .bool r5215.2.2), (9, .pointer (some ⟨b5242, 0, none⟩)), (10, .slice p5249 r5247.length c5250), (11, .pointer (some ⟨b5267, 0, none⟩)), (12, .int .i64 r5256.2.1), (13, .bool r5256.2.2), (61, .bool (!(r5256.2.2 == r5215.2.2)))] w5282 (by kernel_rfl) ?_
            refine W_nil ?_
            obtain rfl := Option.some.inj hm
            exact N_meet fun a ha => ⟨M5284.pick [0, 3, 4, 5, 6, 7, 8, 9] (by kernel_rfl), ha.sub (by kernel_rfl)⟩
      · intro a5289 w5287 ⟨M5288, hS5290⟩
        refine N_use hS5290 ?_
        have hm := hm5280
        refine N_then ?_
        rcases gx_bif hm with ⟨hc5291, hm⟩ | ⟨hc5291, hm⟩
        · refine G_cond_t (b := o5278) hc5291 (by kernel_rfl) ?_
          refine G_seq ?_
          refine G_region ?_
          refine W_run 1 [(4, .bool false)] w5287 (by kernel_rfl) ?_
          refine W_nil ?_
          refine N_then ?_
          refine G_ret ?_
          refine N_then_ret ?_
          obtain rfl := Option.some.inj hm
          refine N_ret [.bool false] (RVs_cons (RV_tmp (by kernel_rfl)) RVs_nil) ?_
          exact ⟨rfl, M5288.pick [] (by kernel_rfl)⟩
        · refine G_cond_f (b := o5278) hc5291 (by kernel_rfl) ?_
          refine G_skip ?_
          refine N_then ?_
          refine G_seq ?_
          refine G_seq ?_
          obtain ⟨r5294, hr5294, hm⟩ := gx_bind hm
          refine G_sub [(1, .slice p4821 x4819.length c4822), (2, .pointer (some ⟨b4825, 0, none⟩)), (6, .pointer (some ⟨b5226, 0, none⟩)), (7, .int .i64 r5215.2.1), (8, .bool r5215.2.2), (9, .pointer (some ⟨b5242, 0, none⟩)), (10, .slice p5249 r5247.length c5250), (11, .pointer (some ⟨b5267, 0, none⟩)), (12, .int .i64 r5256.2.1), (13, .bool r5256.2.2), (61, .bool o5278)] (by kernel_rfl) ?_
          refine G_dagL 3 [[], [], [1]] [[], [], []] [[], [], []] [[], [], []] [[], [], []] [[], [], []] (fun _ => []) (fun i => ([fun f v s => v = (.agg #[.slice p5233 r5231.Items.length c5234, .int .i64 r5231.Head, .int .i64 r5231.Tail] : Value) ∧ s = [], fun f v s => v = (.agg #[.slice p4816 x4814.Items.length c4817, .int .i64 x4814.Head, .int .i64 x4814.Tail] : Value) ∧ s = [], fun f v s => ∃ (p5296 : Option Addr) (c5297 : Nat), v = (.agg #[.slice p5296 r5294.Items.length c5297, .int .i64 r5294.Head, .int .i64 r5294.Tail] : Value) ∧ ownS encI r5294.Items p5296 c5297 s] : List ((Nat → Value) → Value → Seg → Prop)).getD i (fun _ _ _ => False)) (fun j f v => ∃ s, (fun i => ([fun f v s => v = (.agg #[.slice p5233 r5231.Items.length c5234, .int .i64 r5231.Head, .int .i64 r5231.Tail] : Value) ∧ s = [], fun f v s => v = (.agg #[.slice p4816 x4814.Items.length c4817, .int .i64 x4814.Head, .int .i64 x4814.Tail] : Value) ∧ s = [], fun f v s => ∃ (p5296 : Option Addr) (c5297 : Nat), v = (.agg #[.slice p5296 r5294.Items.length c5297, .int .i64 r5294.Head, .int .i64 r5294.Tail] : Value) ∧ ownS encI r5294.Items p5296 c5297 s] : List ((Nat → Value) → Value → Seg → Prop)).getD i (fun _ _ _ => False)) j f v s) [] [0, 2] [2] (fun _ _ _ s h => ⟨s, h⟩) (by kernel_rfl) (by kernel_rfl) (M5288.preNil 3) (by kernel_rfl) (by kernel_rfl) (by kernel_rfl) (by kernel_rfl) (allOb_cons ?_ (allOb_cons ?_ (allOb_cons ?_ allOb_nil))) ?_
          · intro g5292 f5293
            intro R w5300 M5301
            refine W_val (.agg #[.slice p5233 r5231.Items.length c5234, .int .i64 r5231.Head, .int .i64 r5231.Tail]) w5300 (by kernel_rfl) (E_load (e := 27) (fr := (0, 0)) _ _ true 3 b5242 0 [.slice p5233 r5231.Items.length c5234, .int .i64 r5231.Head, .int .i64 r5231.Tail] (.agg #[.slice p5233 r5231.Items.length c5234, .int .i64 r5231.Head, .int .i64 r5231.Tail]) rfl (by kernel_rfl) (by kernel_rfl) (by kernel_rfl) (M5301.blk 4 (b := b5242) (o := .cells ⟨[.slice p5233 r5231.Items.length c5234, .int .i64 r5231.Head, .int .i64 r5231.Tail]⟩ 27 (0, 0)) (by kernel_rfl))) ?_
            exact W_nil (ob_end (.agg #[.slice p5233 r5231.Items.length c5234, .int .i64 r5231.Head, .int .i64 r5231.Tail]) [] rfl (by kernel_rfl) ⟨by kernel_rfl, rfl⟩ M5301)
          · intro g5292 f5293
            intro R w5304 M5305
            refine W_val (.agg #[.slice p4816 x4814.Items.length c4817, .int .i64 x4814.Head, .int .i64 x4814.Tail]) w5304 (by kernel_rfl) (E_load (e := 33) (fr := (0, 0)) _ _ true 3 b4825 0 [.slice p4816 x4814.Items.length c4817, .int .i64 x4814.Head, .int .i64 x4814.Tail] (.agg #[.slice p4816 x4814.Items.length c4817, .int .i64 x4814.Head, .int .i64 x4814.Tail]) rfl (by kernel_rfl) (by kernel_rfl) (by kernel_rfl) (M5305.blk 0 (b := b4825) (o := .cells ⟨[.slice p4816 x4814.Items.length c4817, .int .i64 x4814.Head, .int .i64 x4814.Tail]⟩ 33 (0, 0)) (by kernel_rfl))) ?_
            exact W_nil (ob_end (.agg #[.slice p4816 x4814.Items.length c4817, .int .i64 x4814.Head, .int .i64 x4814.Tail]) [] rfl (by kernel_rfl) ⟨by kernel_rfl, rfl⟩ M5305)
          · intro g5292 f5293
            intro v1_ hb1_
            obtain ⟨rfl, _⟩ := hb1_
            intro R w5308 M5309
            refine W_call 23 #[.agg #[.slice p4816 x4814.Items.length c4817, .int .i64 x4814.Head, .int .i64 x4814.Tail]] (by kernel_rfl) (by kernel_rfl) ?_
            refine (c_l_toRing w5308 x4814 p4816 c4817 (h4818.mem0 M5309) hr5294).mono ?_
            rintro e_ w5310 ⟨p5296, c5297, sg5298, rfl, ho5299, K5312⟩
            refine ⟨_, rfl, ?_⟩
            exact W_nil (ob_end (.agg #[.slice p5296 r5294.Items.length c5297, .int .i64 r5294.Head, .int .i64 r5294.Tail]) sg5298 rfl (by kernel_rfl) ⟨p5296, c5297, rfl, ho5299⟩ (Mem.callMid M5309 K5312))
          · intro g5292 f5293
            intro v0_ hb0_
            obtain ⟨rfl, _⟩ := hb0_
            intro v2_ hb2_
            obtain ⟨p5296, c5297, rfl, ho5299⟩ := hb2_
            intro w5313 M5314
            have M5315 : Mem [] w w5313 [[(b4825, .cells ⟨[.slice p4816 x4814.Items.length c4817, .int .i64 x4814.Head, .int .i64 x4814.Tail]⟩ 33 (0, 0))], sg5219, [(b5226, .cells ⟨[.slice p5217 r5215.1.Items.length c5218, .int .i64 r5215.1.Head, .int .i64 r5215.1.Tail]⟩ 27 (0, 0))], sg5235, [(b5242, .cells ⟨[.slice p5233 r5231.Items.length c5234, .int .i64 r5231.Head, .int .i64 r5231.Tail]⟩ 27 (0, 0))], sg5251, sg5260, [(b5267, .cells ⟨[.slice p5258 r5256.1.Items.length c5259, .int .i64 r5256.1.Head, .int .i64 r5256.1.Tail]⟩ 27 (0, 0))], (g5292 2)] := M5314
            obtain ⟨r5316, hr5316, hm⟩ := gx_bind hm
            refine W_call 18 #[.agg #[.slice p5233 r5231.Items.length c5234, .int .i64 r5231.Head, .int .i64 r5231.Tail], .agg #[.slice p5296 r5294.Items.length c5297, .int .i64 r5294.Head, .int .i64 r5294.Tail]] (by kernel_rfl) (by kernel_rfl) ?_
            refine (c_l_eqRing w5313 r5231 p5233 c5234 (ho5236.rd M5315 3 (by kernel_rfl)) r5294 p5296 c5297 (ho5299.rd M5315 8 (by kernel_rfl)) hr5316).mono ?_
            rintro e_ w5317 ⟨rfl, K5318⟩
            have M5319 := M5315.call0 K5318
            refine ⟨_, rfl, ?_⟩
            refine W_run 1 [(1, .slice p4821 x4819.length c4822), (2, .pointer (some ⟨b4825, 0, none⟩)), (6, .pointer (some ⟨b5226, 0, none⟩)), (7, .int .i64 r5215.2.1), (8, .bool r5215.2.2), (9, .pointer (some ⟨b5242, 0, none⟩)), (10, .slice p5249 r5247.length c5250), (11, .pointer (some ⟨b5267, 0, none⟩)), (12, .int .i64 r5256.2.1), (13, .bool r5256.2.2), (66, .bool (!r5316))] w5317 (by kernel_rfl) ?_
            refine W_nil ?_
            refine N_then ?_
            rcases gx_bif hm with ⟨hc5320, hm⟩ | ⟨hc5320, hm⟩
            · refine G_cond_t (b := (!r5316)) hc5320 (by kernel_rfl) ?_
              refine G_seq ?_
              refine G_region ?_
              refine W_run 1 [(4, .bool false)] w5317 (by kernel_rfl) ?_
              refine W_nil ?_
              refine N_then ?_
              refine G_ret ?_
              refine N_then_ret ?_
              obtain rfl := Option.some.inj hm
              refine N_ret [.bool false] (RVs_cons (RV_tmp (by kernel_rfl)) RVs_nil) ?_
              exact ⟨rfl, M5319.pick [] (by kernel_rfl)⟩
            · refine G_cond_f (b := (!r5316)) hc5320 (by kernel_rfl) ?_
              refine G_skip ?_
              refine N_then ?_
              refine G_seq ?_
              refine G_seq ?_
              refine G_region ?_
              refine W_run 2 [(1, .slice p4821 x4819.length c4822), (2, .pointer (some ⟨b4825, 0, none⟩)), (6, .pointer (some ⟨b5226, 0, none⟩)), (7, .int .i64 r5215.2.1), (8, .bool r5215.2.2), (9, .pointer (some ⟨b5242, 0, none⟩)), (10, .slice p5249 r5247.length c5250), (11, .pointer (some ⟨b5267, 0, none⟩)), (12, .int .i64 r5256.2.1), (13, .bool r5256.2.2), (67, .slice p5249 r5247.length c5250), (68, .slice p4821 x4819.length c4822)] w5317 (by kernel_rfl) ?_
              obtain ⟨r5321, hr5321, hm⟩ := gx_bind hm
              refine W_call 39 #[.slice p4821 x4819.length c4822] (by kernel_rfl) (by kernel_rfl) ?_
              refine (c_l_toIntS w5317 x4819 p4821 c4822 (h4823.mem0 M5319) hr5321).mono ?_
              rintro e_ w5327 ⟨p5323, c5324, sg5325, rfl, ho5326, K5328⟩
              have M5329 := M5319.call K5328
              refine ⟨_, rfl, ?_⟩
              obtain ⟨r5330, hr5330, hm⟩ := gx_bind hm
              refine W_call 27 #[.slice p5249 r5247.length c5250, .slice p5323 r5321.length c5324] (by kernel_rfl) (by kernel_rfl) ?_
              refine (c_l_eqIntS w5327 r5247 p5249 c5250 (ho5252.rd M5329 5 (by kernel_rfl)) r5321 p5323 c5324 (ho5326.rd M5329 9 (by kernel_rfl)) hr5330).mono ?_
              rintro e_ w5331 ⟨rfl, K5332⟩
              have M5333 := M5329.call0 K5332
              refine ⟨_, rfl, ?_⟩
              refine W_run 1 [(1, .slice p4821 x4819.length c4822), (2, .pointer (some ⟨b4825, 0, none⟩)), (6, .pointer (some ⟨b5226, 0, none⟩)), (7, .int .i64 r5215.2.1), (8, .bool r5215.2.2), (9, .pointer (some ⟨b5242, 0, none⟩)), (10, .slice p5249 r5247.length c5250), (11, .pointer (some ⟨b5267, 0, none⟩)), (12, .int .i64 r5256.2.1), (13, .bool r5256.2.2), (71, .bool (!r5330))] w5331 (by kernel_rfl) ?_
              refine W_nil ?_
              refine N_then ?_
              rcases gx_bif hm with ⟨hc5334, hm⟩ | ⟨hc5334, hm⟩
              · refine G_cond_t (b := (!r5330)) hc5334 (by kernel_rfl) ?_
                refine G_seq ?_
                refine G_region ?_
                refine W_run 1 [(4, .bool false)] w5331 (by kernel_rfl) ?_
                refine W_nil ?_
                refine N_then ?_
                refine G_ret ?_
                refine N_then_ret ?_
                obtain rfl := Option.some.inj hm
                refine N_ret [.bool false] (RVs_cons (RV_tmp (by kernel_rfl)) RVs_nil) ?_
                exact ⟨rfl, M5333.pick [] (by kernel_rfl)⟩
              · refine G_cond_f (b := (!r5330)) hc5334 (by kernel_rfl) ?_
                refine G_skip ?_
                refine N_then ?_
                refine G_seq ?_
                refine G_region ?_
                refine W_run 1 [(1, .slice p4821 x4819.length c4822), (2, .pointer (some ⟨b4825, 0, none⟩)), (6, .pointer (some ⟨b5226, 0, none⟩)), (7, .int .i64 r5215.2.1), (8, .bool r5215.2.2), (9, .pointer (some ⟨b5242, 0, none⟩)), (10, .slice p5249 r5247.length c5250), (11, .pointer (some ⟨b5267, 0, none⟩)), (12, .int .i64 r5256.2.1), (13, .bool r5256.2.2), (14, .int .i64 1)] w5331 (by kernel_rfl) ?_
                refine W_nil ?_
                refine N_then ?_
                refine G_seq ?_
                refine G_region ?_
                refine W_val (.agg #[.slice p5233 r5231.Items.length c5234, .int .i64 r5231.Head, .int .i64 r5231.Tail]) w5331 (by kernel_rfl) (E_load (e := 27) (fr := (0, 0)) _ _ true 3 b5242 0 [.slice p5233 r5231.Items.length c5234, .int .i64 r5231.Head, .int .i64 r5231.Tail] (.agg #[.slice p5233 r5231.Items.length c5234, .int .i64 r5231.Head, .int .i64 r5231.Tail]) rfl (by kernel_rfl) (by kernel_rfl) (by kernel_rfl) (M5333.blk 4 (b := b5242) (o := .cells ⟨[.slice p5233 r5231.Items.length c5234, .int .i64 r5231.Head, .int .i64 r5231.Tail]⟩ 27 (0, 0)) (by kernel_rfl))) ?_
                refine W_run 1 [(1, .slice p4821 x4819.length c4822), (2, .pointer (some ⟨b4825, 0, none⟩)), (6, .pointer (some ⟨b5226, 0, none⟩)), (7, .int .i64 r5215.2.1), (8, .bool r5215.2.2), (10, .slice p5249 r5247.length c5250), (11, .pointer (some ⟨b5267, 0, none⟩)), (12, .int .i64 r5256.2.1), (13, .bool r5256.2.2), (14, .int .i64 1), (72, .agg #[.slice p5233 r5231.Items.length c5234, .int .i64 r5231.Head, .int .i64 r5231.Tail]), (73, .int .i64 1)] w5331 (by kernel_rfl) ?_
                obtain ⟨r5335, hr5335, hm⟩ := gx_bind hm
                refine W_call 19 #[.agg #[.slice p5233 r5231.Items.length c5234, .int .i64 r5231.Head, .int .i64 r5231.Tail], .int .i64 1] (by kernel_rfl) (by kernel_rfl) ?_
                refine (c_l_markRing w5331 r5231 p5233 c5234 sg5235 ho5236 1 (M5333.hasPick [3]) (M5333.nodupPick [3] (by kernel_rfl)) hr5335).mono ?_
                rintro e_ w5339 ⟨sg5336, rfl, ho5337, hl5338, K5340⟩
                have M5341 := M5333.callF' [3] [0, 1, 2, 4, 5, 6, 7, 8, 9] (by kernel_rfl) K5340
                refine ⟨_, rfl, ?_⟩
                refine W_conv 72 (.agg #[.slice p5233 r5231.Items.length c5234, .int .i64 r5231.Head, .int .i64 r5231.Tail]) (.agg #[.slice p5233 r5335.2.length c5234, .int .i64 r5231.Head, .int .i64 r5231.Tail]) (by kernel_rfl) (by first | rw [hl5338] | rw [hl5338]) ?_
                have M5342 : Mem [] w w5339 [[(b4825, .cells ⟨[.slice p4816 x4814.Items.length c4817, .int .i64 x4814.Head, .int .i64 x4814.Tail]⟩ 33 (0, 0))], sg5219, [(b5226, .cells ⟨[.slice p5217 r5215.1.Items.length c5218, .int .i64 r5215.1.Head, .int .i64 r5215.1.Tail]⟩ 27 (0, 0))], [(b5242, .cells ⟨[.slice p5233 r5335.2.length c5234, .int .i64 r5231.Head, .int .i64 r5231.Tail]⟩ 27 (0, 0))], sg5251, sg5260, [(b5267, .cells ⟨[.slice p5258 r5256.1.Items.length c5259, .int .i64 r5256.1.Head, .int .i64 r5256.1.Tail]⟩ 27 (0, 0))], (g5292 2), sg5325, sg5336] := by rw [hl5338]; exact M5341
                refine W_run 1 [(1, .slice p4821 x4819.length c4822), (2, .pointer (some ⟨b4825, 0, none⟩)), (6, .pointer (some ⟨b5226, 0, none⟩)), (7, .int .i64 r5215.2.1), (8, .bool r5215.2.2), (10, .slice p5249 r5247.length c5250), (11, .pointer (some ⟨b5267, 0, none⟩)), (12, .int .i64 r5256.2.1), (13, .bool r5256.2.2), (14, .int .i64 r5335.1)] w5339 (by kernel_rfl) ?_
                refine W_nil ?_
                refine N_then ?_
                refine G_seq ?_
                refine G_region ?_
                refine W_run 2 [(1, .slice p4821 x4819.length c4822), (2, .pointer (some ⟨b4825, 0, none⟩)), (6, .pointer (some ⟨b5226, 0, none⟩)), (7, .int .i64 r5215.2.1), (8, .bool r5215.2.2), (11, .pointer (some ⟨b5267, 0, none⟩)), (12, .int .i64 r5256.2.1), (13, .bool r5256.2.2), (14, .int .i64 r5335.1), (75, .slice p5249 r5247.length c5250), (76, .int .i64 r5335.1)] w5339 (by kernel_rfl) ?_
                obtain ⟨r5343, hr5343, hm⟩ := gx_bind hm
                refine W_call 28 #[.slice p5249 r5247.length c5250, .int .i64 r5335.1] (by kernel_rfl) (by kernel_rfl) ?_
                refine (c_l_markIntS w5339 r5247 p5249 c5250 sg5251 ho5252 r5335.1 (M5342.hasPick [4]) (M5342.nodupPick [4] (by kernel_rfl)) hr5343).mono ?_
                rintro e_ w5347 ⟨sg5344, rfl, ho5345, hl5346, K5348⟩
                have M5349 := M5342.callF' [4] [0, 1, 2, 3, 5, 6, 7, 8, 9] (by kernel_rfl) K5348
                refine ⟨_, rfl, ?_⟩
                refine W_conv 75 (.slice p5249 r5247.length c5250) (.slice p5249 r5343.2.length c5250) (by kernel_rfl) (by first | rw [hl5346] | rw [hl5346]) ?_
                refine W_run 1 [(1, .slice p4821 x4819.length c4822), (2, .pointer (some ⟨b4825, 0, none⟩)), (6, .pointer (some ⟨b5226, 0, none⟩)), (7, .int .i64 r5215.2.1), (8, .bool r5215.2.2), (11, .pointer (some ⟨b5267, 0, none⟩)), (12, .int .i64 r5256.2.1), (13, .bool r5256.2.2), (14, .int .i64 r5343.1)] w5347 (by kernel_rfl) ?_
                refine W_nil ?_
                refine N_then ?_
                refine G_seq ?_
                refine G_seq ?_
                obtain ⟨o5357, ho5358, hm5359⟩ := gx_bind hm
                refine G_meet (fun a w' => Mem [] w w' [[(b4825, .cells ⟨[.slice p4816 x4814.Items.length c4817, .int .i64 x4814.Head, .int .i64 x4814.Tail]⟩ 33 (0, 0))], sg5219, [(b5226, .cells ⟨[.slice p5217 r5215.1.Items.length c5218, .int .i64 r5215.1.Head, .int .i64 r5215.1.Tail]⟩ 27 (0, 0))], sg5260, [(b5267, .cells ⟨[.slice p5258 r5256.1.Items.length c5259, .int .i64 r5256.1.Head, .int .i64 r5256.1.Tail]⟩ 27 (0, 0))]] ∧ Sat Try.f11.ntmps [(1, .slice p4821 x4819.length c4822), (2, .pointer (some ⟨b4825, 0, none⟩)), (6, .pointer (some ⟨b5226, 0, none⟩)), (7, .int .i64 r5215.2.1), (8, .bool r5215.2.2), (11, .pointer (some ⟨b5267, 0, none⟩)), (95, .bool o5357)] a) ?_ ?_
                · have hm := ho5358
                  refine G_region ?_
                  refine W_run 3 [(1, .slice p4821 x4819.length c4822), (2, .pointer (some ⟨b4825, 0, none⟩)), (6, .pointer (some ⟨b5226, 0, none⟩)), (7, .int .i64 r5215.2.1), (8, .bool r5215.2.2), (11, .pointer (some ⟨b5267, 0, none⟩)), (12, .int .i64 r5256.2.1), (13, .bool r5256.2.2), (80, .bool (decide (r5343.1 < 0)))] w5347 (by kernel_rfl) ?_
                  rcases gx_bif hm with ⟨hc5360, hm⟩ | ⟨hc5360, hm⟩
                  · refine W_known 80 true (by kernel_rfl) hc5360 ?_
                    refine W_run 15 [(1, .slice p4821 x4819.length c4822), (2, .pointer (some ⟨b4825, 0, none⟩)), (6, .pointer (some ⟨b5226, 0, none⟩)), (7, .int .i64 r5215.2.1), (8, .bool r5215.2.2), (11, .pointer (some ⟨b5267, 0, none⟩)), (95, .bool true)] w5347 (by kernel_rfl) ?_
                    refine W_nil ?_
                    obtain rfl := Option.some.inj hm
                    exact N_meet fun a ha => ⟨M5349.pick [0, 1, 2, 4, 5] (by kernel_rfl), ha.sub (by kernel_rfl)⟩
                  · refine W_known 80 false (by kernel_rfl) hc5360 ?_
                    refine W_val (.agg #[.slice p5258 r5256.1.Items.length c5259, .int .i64 r5256.1.Head, .int .i64 r5256.1.Tail]) w5347 (by kernel_rfl) (E_load (e := 27) (fr := (0, 0)) _ _ true 3 b5267 0 [.slice p5258 r5256.1.Items.length c5259, .int .i64 r5256.1.Head, .int .i64 r5256.1.Tail] (.agg #[.slice p5258 r5256.1.Items.length c5259, .int .i64 r5256.1.Head, .int .i64 r5256.1.Tail]) rfl (by kernel_rfl) (by kernel_rfl) (by kernel_rfl) (M5349.blk 5 (b := b5267) (o := .cells ⟨[.slice p5258 r5256.1.Items.length c5259, .int .i64 r5256.1.Head, .int .i64 r5256.1.Tail]⟩ 27 (0, 0)) (by kernel_rfl))) ?_
                    refine W_val (.agg #[.slice p5217 r5215.1.Items.length c5218, .int .i64 r5215.1.Head, .int .i64 r5215.1.Tail]) w5347 (by kernel_rfl) (E_load (e := 27) (fr := (0, 0)) _ _ true 3 b5226 0 [.slice p5217 r5215.1.Items.length c5218, .int .i64 r5215.1.Head, .int .i64 r5215.1.Tail] (.agg #[.slice p5217 r5215.1.Items.length c5218, .int .i64 r5215.1.Head, .int .i64 r5215.1.Tail]) rfl (by kernel_rfl) (by kernel_rfl) (by kernel_rfl) (M5349.blk 2 (b := b5226) (o := .cells ⟨[.slice p5217 r5215.1.Items.length c5218, .int .i64 r5215.1.Head, .int .i64 r5215.1.Tail]⟩ 27 (0, 0)) (by kernel_rfl))) ?_
                    obtain ⟨r5361, hr5361, hm⟩ := gx_bind hm
                    refine W_call 18 #[.agg #[.slice p5258 r5256.1.Items.length c5259, .int .i64 r5256.1.Head, .int .i64 r5256.1.Tail], .agg #[.slice p5217 r5215.1.Items.length c5218, .int .i64 r5215.1.Head, .int .i64 r5215.1.Tail]] (by kernel_rfl) (by kernel_rfl) ?_
                    refine (c_l_eqRing w5347 r5256.1 p5258 c5259 (ho5261.rd M5349 4 (by kernel_rfl)) r5215.1 p5217 c5218 (ho5220.rd M5349 1 (by kernel_rfl)) hr5361).mono ?_
                    rintro e_ w5362 ⟨rfl, K5363⟩
                    have M5364 := M5349.call0 K5363
                    refine ⟨_, rfl, ?_⟩
                    refine W_run 3 [(1, .slice p4821 x4819.length c4822), (2, .pointer (some ⟨b4825, 0, none⟩)), (6, .pointer (some ⟨b5226, 0, none⟩)), (7, .int .i64 r5215.2.1), (8, .bool r5215.2.2), (11, .pointer (some ⟨b5267, 0, none⟩)), (12, .int .i64 r5256.2.1), (13, .bool r5256.2.2), (86, .bool (!r5361))] w5362 (by kernel_rfl) ?_
                    rcases gx_bif hm with ⟨hc5365, hm⟩ | ⟨hc5365, hm⟩
                    · refine W_known 86 true (by kernel_rfl) hc5365 ?_
                      refine W_run 9 [(1, .slice p4821 x4819.length c4822), (2, .pointer (some ⟨b4825, 0, none⟩)), (6, .pointer (some ⟨b5226, 0, none⟩)), (7, .int .i64 r5215.2.1), (8, .bool r5215.2.2), (11, .pointer (some ⟨b5267, 0, none⟩)), (95, .bool true)] w5362 (by kernel_rfl) ?_
                      refine W_nil ?_
                      obtain rfl := Option.some.inj hm
                      exact N_meet fun a ha => ⟨M5364.pick [0, 1, 2, 4, 5] (by kernel_rfl), ha.sub (by kernel_rfl)⟩
                    · refine W_known 86 false (by kernel_rfl) hc5365 ?_
                      refine W_run 5 [(1, .slice p4821 x4819.length c4822), (2, .pointer (some ⟨b4825, 0, none⟩)), (6, .pointer (some ⟨b5226, 0, none⟩)), (7, .int .i64 r5215.2.1), (8, .bool r5215.2.2), (11, .pointer (some ⟨b5267, 0, none⟩)), (13, .bool r5256.2.2), (91, .bool (r5256.2.1 != r5215.2.1))] w5362 (by kernel_rfl) ?_
                      rcases gx_bif hm with ⟨hc5366, hm⟩ | ⟨hc5366, hm⟩
                      · refine W_known 91 true (by kernel_rfl) hc5366 ?_
                        refine W_run 4 [(1, .slice p4821 x4819.length c4822), (2, .pointer (some ⟨b4825, 0, none⟩)), (6, .pointer (some ⟨b5226, 0, none⟩)), (7, .int .i64 r5215.2.1), (8, .bool r5215.2.2), (11, .pointer (some ⟨b5267, 0, none⟩)), (95, .bool true)] w5362 (by kernel_rfl) ?_
                        refine W_nil ?_
                        obtain rfl := Option.some.inj hm
                        exact N_meet fun a ha => ⟨M5364.pick [0, 1, 2, 4, 5] (by kernel_rfl), ha.sub (by kernel_rfl)⟩
                      · refine W_known 91 false (by kernel_rfl) hc5366 ?_
                        refine W_run 4 [(1, .slice p4821 x4819.length c4822), (2, .pointer (some ⟨b4825, 0, none⟩)), (6, .pointer (some ⟨b5226, 0, none⟩)), (7, .int .i64 r5215.2.1), (8, .bool r5215.2.2), (11, .pointer (some ⟨b5267, 0, none⟩)), (95, .bool (!(r5256.2.2 == r5215.2.2)))] w5362 (by kernel_rfl) ?_
                        refine W_nil ?_
                        obtain rfl := Option.some.inj hm
                        exact N_meet fun a ha => ⟨M5364.pick [0, 1, 2, 4, 5] (by kernel_rfl), ha.sub (by kernel_rfl)⟩
                · intro a5369 w5367 ⟨M5368, hS5370⟩
                  refine N_use hS5370 ?_
                  have hm := hm5359
                  refine N_then ?_
                  rcases gx_bif hm with ⟨hc5371, hm⟩ | ⟨hc5371, hm⟩
                  · refine G_cond_t (b := o5357) hc5371 (by kernel_rfl) ?_
                    refine G_seq ?_
                    refine G_region ?_
                    refine W_run 1 [(4, .bool false)] w5367 (by kernel_rfl) ?_
                    refine W_nil ?_
                    refine N_then ?_
                    refine G_ret ?_
                    refine N_then_ret ?_
                    obtain rfl := Option.some.inj hm
                    refine N_ret [.bool false] (RVs_cons (RV_tmp (by kernel_rfl)) RVs_nil) ?_
                    exact ⟨rfl, M5368.pick [] (by kernel_rfl)⟩
                  · refine G_cond_f (b := o5357) hc5371 (by kernel_rfl) ?_
                    refine G_skip ?_
                    refine N_then ?_
                    refine G_seq ?_
                    refine G_region ?_
                    refine W_run 1 [(1, .slice p4821 x4819.length c4822), (2, .pointer (some ⟨b4825, 0, none⟩)), (6, .pointer (some ⟨b5226, 0, none⟩)), (7, .int .i64 r5215.2.1), (8, .bool r5215.2.2), (11, .pointer (some ⟨b5267, 0, none⟩)), (15, .int .i64 1)] w5367 (by kernel_rfl) ?_
                    refine W_nil ?_
                    refine N_then ?_
                    refine G_seq ?_
                    refine G_region ?_
                    refine W_val (.agg #[.slice p5258 r5256.1.Items.length c5259, .int .i64 r5256.1.Head, .int .i64 r5256.1.Tail]) w5367 (by kernel_rfl) (E_load (e := 27) (fr := (0, 0)) _ _ true 3 b5267 0 [.slice p5258 r5256.1.Items.length c5259, .int .i64 r5256.1.Head, .int .i64 r5256.1.Tail] (.agg #[.slice p5258 r5256.1.Items.length c5259, .int .i64 r5256.1.Head, .int .i64 r5256.1.Tail]) rfl (by kernel_rfl) (by kernel_rfl) (by kernel_rfl) (M5368.blk 4 (b := b5267) (o := .cells ⟨[.slice p5258 r5256.1.Items.length c5259, .int .i64 r5256.1.Head, .int .i64 r5256.1.Tail]⟩ 27 (0, 0)) (by kernel_rfl))) ?_
                    refine W_run 1 [(1, .slice p4821 x4819.length c4822), (2, .pointer (some ⟨b4825, 0, none⟩)), (6, .pointer (some ⟨b5226, 0, none⟩)), (7, .int .i64 r5215.2.1), (8, .bool r5215.2.2), (11, .pointer (some ⟨b5267, 0, none⟩)), (15, .int .i64 1), (96, .agg #[.slice p5258 r5256.1.Items.length c5259, .int .i64 r5256.1.Head, .int .i64 r5256.1.Tail]), (97, .int .i64 1)] w5367 (by kernel_rfl) ?_
                    obtain ⟨r5372, hr5372, hm⟩ := gx_bind hm
                    refine W_call 19 #[.agg #[.slice p5258 r5256.1.Items.length c5259, .int .i64 r5256.1.Head, .int .i64 r5256.1.Tail], .int .i64 1] (by kernel_rfl) (by kernel_rfl) ?_
                    refine (c_l_markRing w5367 r5256.1 p5258 c5259 sg5260 ho5261 1 (M5368.hasPick [3]) (M5368.nodupPick [3] (by kernel_rfl)) hr5372).mono ?_
                    rintro e_ w5376 ⟨sg5373, rfl, ho5374, hl5375, K5377⟩
                    have M5378 := M5368.callF' [3] [0, 1, 2, 4] (by kernel_rfl) K5377
                    refine ⟨_, rfl, ?_⟩
                    refine W_conv 96 (.agg #[.slice p5258 r5256.1.Items.length c5259, .int .i64 r5256.1.Head, .int .i64 r5256.1.Tail]) (.agg #[.slice p5258 r5372.2.length c5259, .int .i64 r5256.1.Head, .int .i64 r5256.1.Tail]) (by kernel_rfl) (by first | rw [hl5375] | rw [hl5375]) ?_
                    have M5379 : Mem [] w w5376 [[(b4825, .cells ⟨[.slice p4816 x4814.Items.length c4817, .int .i64 x4814.Head, .int .i64 x4814.Tail]⟩ 33 (0, 0))], sg5219, [(b5226, .cells ⟨[.slice p5217 r5215.1.Items.length c5218, .int .i64 r5215.1.Head, .int .i64 r5215.1.Tail]⟩ 27 (0, 0))], [(b5267, .cells ⟨[.slice p5258 r5372.2.length c5259, .int .i64 r5256.1.Head, .int .i64 r5256.1.Tail]⟩ 27 (0, 0))], sg5373] := by rw [hl5375]; exact M5378
                    refine W_run 1 [(1, .slice p4821 x4819.length c4822), (2, .pointer (some ⟨b4825, 0, none⟩)), (6, .pointer (some ⟨b5226, 0, none⟩)), (7, .int .i64 r5215.2.1), (8, .bool r5215.2.2), (11, .pointer (some ⟨b5267, 0, none⟩)), (15, .int .i64 r5372.1)] w5376 (by kernel_rfl) ?_
                    refine W_nil ?_
                    refine N_then ?_
                    refine G_seq ?_
                    refine G_region ?_
                    refine W_run 1 [(1, .slice p4821 x4819.length c4822), (2, .pointer (some ⟨b4825, 0, none⟩)), (6, .pointer (some ⟨b5226, 0, none⟩)), (7, .int .i64 r5215.2.1), (8, .bool r5215.2.2), (11, .pointer (some ⟨b5267, 0, none⟩)), (15, .int .i64 r5372.1), (16, .int .i64 1)] w5376 (by kernel_rfl) ?_
                    refine W_nil ?_
                    refine N_then ?_
                    refine G_seq ?_
                    refine G_region ?_
                    refine W_val (.agg #[.slice p5258 r5372.2.length c5259, .int .i64 r5256.1.Head, .int .i64 r5256.1.Tail]) w5376 (by kernel_rfl) (E_load (e := 27) (fr := (0, 0)) _ _ true 3 b5267 0 [.slice p5258 r5372.2.length c5259, .int .i64 r5256.1.Head, .int .i64 r5256.1.Tail] (.agg #[.slice p5258 r5372.2.length c5259, .int .i64 r5256.1.Head, .int .i64 r5256.1.Tail]) rfl (by kernel_rfl) (by kernel_rfl) (by kernel_rfl) (M5379.blk 3 (b := b5267) (o := .cells ⟨[.slice p5258 r5372.2.length c5259, .int .i64 r5256.1.Head, .int .i64 r5256.1.Tail]⟩ 27 (0, 0)) (by kernel_rfl))) ?_
                    refine W_run 1 [(1, .slice p4821 x4819.length c4822), (2, .pointer (some ⟨b4825, 0, none⟩)), (6, .pointer (some ⟨b5226, 0, none⟩)), (7, .int .i64 r5215.2.1), (8, .bool r5215.2.2), (11, .pointer (some ⟨b5267, 0, none⟩)), (15, .int .i64 r5372.1), (16, .int .i64 1), (99, .agg #[.slice p5258 r5372.2.length c5259, .int .i64 r5256.1.Head, .int .i64 r5256.1.Tail]), (100, .int .i64 1)] w5376 (by kernel_rfl) ?_
                    obtain ⟨r5380, hr5380, hm⟩ := gx_bind hm
                    refine W_call 20 #[.agg #[.slice p5258 r5372.2.length c5259, .int .i64 r5256.1.Head, .int .i64 r5256.1.Tail], .int .i64 1] (by kernel_rfl) (by kernel_rfl) ?_
                    refine (c_l_heldRing w5376 (⟨r5372.2, r5256.1.Head, r5256.1.Tail⟩ : Ring) p5258 c5259 (ho5374.rd M5379 4 (by kernel_rfl)) 1 hr5380).mono ?_
                    rintro e_ w5381 ⟨rfl, K5382⟩
                    have M5383 := M5379.call0 K5382
                    refine ⟨_, rfl, ?_⟩
                    refine W_run 1 [(1, .slice p4821 x4819.length c4822), (2, .pointer (some ⟨b4825, 0, none⟩)), (6, .pointer (some ⟨b5226, 0, none⟩)), (7, .int .i64 r5215.2.1), (8, .bool r5215.2.2), (11, .pointer (some ⟨b5267, 0, none⟩)), (15, .int .i64 r5372.1), (16, .int .i64 r5380)] w5381 (by kernel_rfl) ?_
                    refine W_nil ?_
                    refine N_then ?_
                    refine G_seq ?_
                    refine G_seq ?_
                    refine G_region ?_
                    refine W_run 2 [(1, .slice p4821 x4819.length c4822), (2, .pointer (some ⟨b4825, 0, none⟩)), (6, .pointer (some ⟨b5226, 0, none⟩)), (7, .int .i64 r5215.2.1), (8, .bool r5215.2.2), (11, .pointer (some ⟨b5267, 0, none⟩)), (15, .int .i64 r5372.1), (16, .int .i64 r5380), (103, .bool (decide (r5380 < 0)))] w5381 (by kernel_rfl) ?_
                    refine W_nil ?_
                    refine N_then ?_
                    rcases gx_bif hm with ⟨hc5384, hm⟩ | ⟨hc5384, hm⟩
                    · refine G_cond_t (b := (decide (r5380 < 0))) hc5384 (by kernel_rfl) ?_
                      refine G_seq ?_
                      refine G_region ?_
                      refine W_run 1 [(4, .bool false)] w5381 (by kernel_rfl) ?_
                      refine W_nil ?_
                      refine N_then ?_
                      refine G_ret ?_
                      refine N_then_ret ?_
                      obtain rfl := Option.some.inj hm
                      refine N_ret [.bool false] (RVs_cons (RV_tmp (by kernel_rfl)) RVs_nil) ?_
                      exact ⟨rfl, M5383.pick [] (by kernel_rfl)⟩
                    · refine G_cond_f (b := (decide (r5380 < 0))) hc5384 (by kernel_rfl) ?_
                      refine G_skip ?_
                      refine N_then ?_
                      refine G_seq ?_
                      refine G_seq ?_
                      refine G_region ?_
                      refine W_run 3 [(1, .slice p4821 x4819.length c4822), (2, .pointer (some ⟨b4825, 0, none⟩)), (6, .pointer (some ⟨b5226, 0, none⟩)), (7, .int .i64 r5215.2.1), (8, .bool r5215.2.2), (11, .pointer (some ⟨b5267, 0, none⟩)), (15, .int .i64 r5372.1), (106, .bool (r5380 != r5372.1))] w5381 (by kernel_rfl) ?_
                      refine W_nil ?_
                      refine N_then ?_
                      rcases gx_bif hm with ⟨hc5385, hm⟩ | ⟨hc5385, hm⟩
                      · refine G_cond_t (b := (r5380 != r5372.1)) hc5385 (by kernel_rfl) ?_
                        refine G_seq ?_
                        refine G_region ?_
                        refine W_run 1 [(4, .bool false)] w5381 (by kernel_rfl) ?_
                        refine W_nil ?_
                        refine N_then ?_
                        refine G_ret ?_
                        refine N_then_ret ?_
                        obtain rfl := Option.some.inj hm
                        refine N_ret [.bool false] (RVs_cons (RV_tmp (by kernel_rfl)) RVs_nil) ?_
                        exact ⟨rfl, M5383.pick [] (by kernel_rfl)⟩
                      · refine G_cond_f (b := (r5380 != r5372.1)) hc5385 (by kernel_rfl) ?_
                        refine G_skip ?_
                        refine N_then ?_
                        refine G_seq ?_
                        refine G_region ?_
                        refine W_val (.agg #[.slice p4816 x4814.Items.length c4817, .int .i64 x4814.Head, .int .i64 x4814.Tail]) w5381 (by kernel_rfl) (E_load (e := 33) (fr := (0, 0)) _ _ true 3 b4825 0 [.slice p4816 x4814.Items.length c4817, .int .i64 x4814.Head, .int .i64 x4814.Tail] (.agg #[.slice p4816 x4814.Items.length c4817, .int .i64 x4814.Head, .int .i64 x4814.Tail]) rfl (by kernel_rfl) (by kernel_rfl) (by kernel_rfl) (M5383.blk 0 (b := b4825) (o := .cells ⟨[.slice p4816 x4814.Items.length c4817, .int .i64 x4814.Head, .int .i64 x4814.Tail]⟩ 33 (0, 0)) (by kernel_rfl))) ?_
                        obtain ⟨r5386, hr5386, hm⟩ := gx_bind hm
                        refine W_call 23 #[.agg #[.slice p4816 x4814.Items.length c4817, .int .i64 x4814.Head, .int .i64 x4814.Tail]] (by kernel_rfl) (by kernel_rfl) ?_
                        refine (c_l_toRing w5381 x4814 p4816 c4817 (h4818.mem0 M5383) hr5386).mono ?_
                        rintro e_ w5392 ⟨p5388, c5389, sg5390, rfl, ho5391, K5393⟩
                        have M5394 := M5383.call K5393
                        refine ⟨_, rfl, ?_⟩
                        refine W_run 1 [(6, .pointer (some ⟨b5226, 0, none⟩)), (7, .int .i64 r5215.2.1), (8, .bool r5215.2.2), (11, .pointer (some ⟨b5267, 0, none⟩)), (15, .int .i64 r5372.1), (109, .agg #[.slice p5388 r5386.Items.length c5389, .int .i64 r5386.Head, .int .i64 r5386.Tail]), (110, .slice p4821 x4819.length c4822)] w5392 (by kernel_rfl) ?_
                        obtain ⟨r5395, hr5395, hm⟩ := gx_bind hm
                        refine W_call 39 #[.slice p4821 x4819.length c4822] (by kernel_rfl) (by kernel_rfl) ?_
                        refine (c_l_toIntS w5392 x4819 p4821 c4822 (h4823.mem0 M5394) hr5395).mono ?_
                        rintro e_ w5401 ⟨p5397, c5398, sg5399, rfl, ho5400, K5402⟩
                        have M5403 := M5394.call K5402
                        refine ⟨_, rfl, ?_⟩
                        obtain ⟨r5404, hr5404, hm⟩ := gx_bind hm
                        refine W_call 40 #[.agg #[.slice p5388 r5386.Items.length c5389, .int .i64 r5386.Head, .int .i64 r5386.Tail], .slice p5397 r5395.length c5398] (by kernel_rfl) (by kernel_rfl) ?_
                        refine (c_i_PutWords w5401 r5386 p5388 c5389 (ho5391.rd M5403 5 (by kernel_rfl)) r5395 p5397 c5398 (ho5400.rd M5403 6 (by kernel_rfl)) hr5404).mono ?_
                        rintro e_ w5410 ⟨p5406, c5407, sg5408, rfl, ho5409, K5411⟩
                        have M5412 := M5403.call K5411
                        refine ⟨_, rfl, ?_⟩
                        refine W_run 4 [(6, .pointer (some ⟨b5226, 0, none⟩)), (7, .int .i64 r5215.2.1), (8, .bool r5215.2.2), (11, .pointer (some ⟨b5267, 0, none⟩)), (15, .int .i64 r5372.1), (113, .agg #[.slice p5406 r5404.1.Items.length c5407, .int .i64 r5404.1.Head, .int .i64 r5404.1.Tail]), (114, .int .i64 r5404.2.1), (115, .bool r5404.2.2)] w5410 (by kernel_rfl) ?_
                        refine W_new (fun b => .pointer (some ⟨b, 0, none⟩)) (.cells ⟨[.slice none 0 0, .int .i64 0, .int .i64 0]⟩ 27 (0, 0)) M5412 rfl (by kernel_rfl) (by kernel_rfl) ?_
                        intro b5415 w5416 M5417
                        refine W_store _ _ _ true 3 b5415 0 [.slice none 0 0, .int .i64 0, .int .i64 0] 27 (.agg #[.slice p5406 r5404.1.Items.length c5407, .int .i64 r5404.1.Head, .int .i64 r5404.1.Tail]) 8 [.slice p5406 r5404.1.Items.length c5407, .int .i64 r5404.1.Head, .int .i64 r5404.1.Tail] M5417 (by kernel_rfl) rfl (by kernel_rfl) (by kernel_rfl) (by kernel_rfl) (by kernel_rfl) (by kernel_rfl) (by kernel_rfl) (by kernel_rfl) (by kernel_rfl) ?_
                        intro w5418 M5419
                        refine W_run 2 [(6, .pointer (some ⟨b5226, 0, none⟩)), (7, .int .i64 r5215.2.1), (8, .bool r5215.2.2), (11, .pointer (some ⟨b5267, 0, none⟩)), (15, .int .i64 r5372.1), (17, .pointer (some ⟨b5415, 0, none⟩)), (18, .int .i64 r5404.2.1), (19, .bool r5404.2.2)] w5418 (by kernel_rfl) ?_
                        refine W_nil ?_
                        refine N_then ?_
                        refine G_seq ?_
                        refine G_seq ?_
                        obtain ⟨o5426, ho5427, hm5428⟩ := gx_bind hm
                        refine G_meet (fun a w' => Mem [] w w' [[(b5267, .cells ⟨[.slice p5258 r5372.2.length c5259, .int .i64 r5256.1.Head, .int .i64 r5256.1.Tail]⟩ 27 (0, 0))], sg5373] ∧ Sat Try.f11.ntmps [(11, .pointer (some ⟨b5267, 0, none⟩)), (15, .int .i64 r5372.1), (129, .bool o5426)] a) ?_ ?_
                        · have hm := ho5427
                          refine G_region ?_
                          refine W_val (.agg #[.slice p5406 r5404.1.Items.length c5407, .int .i64 r5404.1.Head, .int .i64 r5404.1.Tail]) w5418 (by kernel_rfl) (E_load (e := 27) (fr := (0, 0)) _ _ true 3 b5415 0 [.slice p5406 r5404.1.Items.length c5407, .int .i64 r5404.1.Head, .int .i64 r5404.1.Tail] (.agg #[.slice p5406 r5404.1.Items.length c5407, .int .i64 r5404.1.Head, .int .i64 r5404.1.Tail]) rfl (by kernel_rfl) (by kernel_rfl) (by kernel_rfl) (M5419.blk 8 (b := b5415) (o := .cells ⟨[.slice p5406 r5404.1.Items.length c5407, .int .i64 r5404.1.Head, .int .i64 r5404.1.Tail]⟩ 27 (0, 0)) (by kernel_rfl))) ?_
                          refine W_val (.agg #[.slice p5217 r5215.1.Items.length c5218, .int .i64 r5215.1.Head, .int .i64 r5215.1.Tail]) w5418 (by kernel_rfl) (E_load (e := 27) (fr := (0, 0)) _ _ true 3 b5226 0 [.slice p5217 r5215.1.Items.length c5218, .int .i64 r5215.1.Head, .int .i64 r5215.1.Tail] (.agg #[.slice p5217 r5215.1.Items.length c5218, .int .i64 r5215.1.Head, .int .i64 r5215.1.Tail]) rfl (by kernel_rfl) (by kernel_rfl) (by kernel_rfl) (M5419.blk 2 (b := b5226) (o := .cells ⟨[.slice p5217 r5215.1.Items.length c5218, .int .i64 r5215.1.Head, .int .i64 r5215.1.Tail]⟩ 27 (0, 0)) (by kernel_rfl))) ?_
                          obtain ⟨r5429, hr5429, hm⟩ := gx_bind hm
                          refine W_call 18 #[.agg #[.slice p5406 r5404.1.Items.length c5407, .int .i64 r5404.1.Head, .int .i64 r5404.1.Tail], .agg #[.slice p5217 r5215.1.Items.length c5218, .int .i64 r5215.1.Head, .int .i64 r5215.1.Tail]] (by kernel_rfl) (by kernel_rfl) ?_
                          refine (c_l_eqRing w5418 r5404.1 p5406 c5407 (ho5409.rd M5419 7 (by kernel_rfl)) r5215.1 p5217 c5218 (ho5220.rd M5419 1 (by kernel_rfl)) hr5429).mono ?_
                          rintro e_ w5430 ⟨rfl, K5431⟩
                          have M5432 := M5419.call0 K5431
                          refine ⟨_, rfl, ?_⟩
                          refine W_run 2 [(7, .int .i64 r5215.2.1), (8, .bool r5215.2.2), (11, .pointer (some ⟨b5267, 0, none⟩)), (15, .int .i64 r5372.1), (18, .int .i64 r5404.2.1), (19, .bool r5404.2.2), (120, .bool (!r5429))] w5430 (by kernel_rfl) ?_
                          rcases gx_bif hm with ⟨hc5433, hm⟩ | ⟨hc5433, hm⟩
                          · refine W_known 120 true (by kernel_rfl) hc5433 ?_
                            refine W_run 9 [(11, .pointer (some ⟨b5267, 0, none⟩)), (15, .int .i64 r5372.1), (129, .bool true)] w5430 (by kernel_rfl) ?_
                            refine W_nil ?_
                            obtain rfl := Option.some.inj hm
                            exact N_meet fun a ha => ⟨M5432.pick [3, 4] (by kernel_rfl), ha.sub (by kernel_rfl)⟩
                          · refine W_known 120 false (by kernel_rfl) hc5433 ?_
                            refine W_run 5 [(8, .bool r5215.2.2), (11, .pointer (some ⟨b5267, 0, none⟩)), (15, .int .i64 r5372.1), (19, .bool r5404.2.2), (125, .bool (r5404.2.1 != r5215.2.1))] w5430 (by kernel_rfl) ?_
                            rcases gx_bif hm with ⟨hc5434, hm⟩ | ⟨hc5434, hm⟩
                            · refine W_known 125 true (by kernel_rfl) hc5434 ?_
                              refine W_run 4 [(11, .pointer (some ⟨b5267, 0, none⟩)), (15, .int .i64 r5372.1), (129, .bool true)] w5430 (by kernel_rfl) ?_
                              refine W_nil ?_
                              obtain rfl := Option.some.inj hm
                              exact N_meet fun a ha => ⟨M5432.pick [3, 4] (by kernel_rfl), ha.sub (by kernel_rfl)⟩
                            · refine W_known 125 false (by kernel_rfl) hc5434 ?_
                              refine W_run 4 [(11, .pointer (some ⟨b5267, 0, none⟩)), (15, .int .i64 r5372.1), (129, .bool (!(r5404.2.2 == r5215.2.2)))] w5430 (by kernel_rfl) ?_
                              refine W_nil ?_
                              obtain rfl := Option.some.inj hm
                              exact N_meet fun a ha => ⟨M5432.pick [3, 4] (by kernel_rfl), ha.sub (by kernel_rfl)⟩
                        · intro a5437 w5435 ⟨M5436, hS5438⟩
                          refine N_use hS5438 ?_
                          have hm := hm5428
                          refine N_then ?_
                          rcases gx_bif hm with ⟨hc5439, hm⟩ | ⟨hc5439, hm⟩
                          · refine G_cond_t (b := o5426) hc5439 (by kernel_rfl) ?_
                            refine G_seq ?_
                            refine G_region ?_
                            refine W_run 1 [(4, .bool false)] w5435 (by kernel_rfl) ?_
                            refine W_nil ?_
                            refine N_then ?_
                            refine G_ret ?_
                            refine N_then_ret ?_
                            obtain rfl := Option.some.inj hm
                            refine N_ret [.bool false] (RVs_cons (RV_tmp (by kernel_rfl)) RVs_nil) ?_
                            exact ⟨rfl, M5436.pick [] (by kernel_rfl)⟩
                          · refine G_cond_f (b := o5426) hc5439 (by kernel_rfl) ?_
                            refine G_skip ?_
                            refine N_then ?_
                            refine G_seq ?_
                            refine G_region ?_
                            refine W_run 1 [(11, .pointer (some ⟨b5267, 0, none⟩)), (15, .int .i64 r5372.1), (16, .int .i64 1)] w5435 (by kernel_rfl) ?_
                            refine W_nil ?_
                            refine N_then ?_
                            refine G_seq ?_
                            refine G_region ?_
                            refine W_val (.agg #[.slice p5258 r5372.2.length c5259, .int .i64 r5256.1.Head, .int .i64 r5256.1.Tail]) w5435 (by kernel_rfl) (E_load (e := 27) (fr := (0, 0)) _ _ true 3 b5267 0 [.slice p5258 r5372.2.length c5259, .int .i64 r5256.1.Head, .int .i64 r5256.1.Tail] (.agg #[.slice p5258 r5372.2.length c5259, .int .i64 r5256.1.Head, .int .i64 r5256.1.Tail]) rfl (by kernel_rfl) (by kernel_rfl) (by kernel_rfl) (M5436.blk 0 (b := b5267) (o := .cells ⟨[.slice p5258 r5372.2.length c5259, .int .i64 r5256.1.Head, .int .i64 r5256.1.Tail]⟩ 27 (0, 0)) (by kernel_rfl))) ?_
                            refine W_run 1 [(15, .int .i64 r5372.1), (16, .int .i64 1), (130, .agg #[.slice p5258 r5372.2.length c5259, .int .i64 r5256.1.Head, .int .i64 r5256.1.Tail]), (131, .int .i64 1)] w5435 (by kernel_rfl) ?_
                            obtain ⟨r5440, hr5440, hm⟩ := gx_bind hm
                            refine W_call 20 #[.agg #[.slice p5258 r5372.2.length c5259, .int .i64 r5256.1.Head, .int .i64 r5256.1.Tail], .int .i64 1] (by kernel_rfl) (by kernel_rfl) ?_
                            refine (c_l_heldRing w5435 (⟨r5372.2, r5256.1.Head, r5256.1.Tail⟩ : Ring) p5258 c5259 (ho5374.rd M5436 1 (by kernel_rfl)) 1 hr5440).mono ?_
                            rintro e_ w5441 ⟨rfl, K5442⟩
                            have M5443 := M5436.call0 K5442
                            refine ⟨_, rfl, ?_⟩
                            refine W_run 1 [(15, .int .i64 r5372.1), (16, .int .i64 r5440)] w5441 (by kernel_rfl) ?_
                            refine W_nil ?_
                            refine N_then ?_
                            refine G_seq ?_
                            refine G_seq ?_
                            refine G_region ?_
                            refine W_run 2 [(15, .int .i64 r5372.1), (16, .int .i64 r5440), (134, .bool (decide (r5440 < 0)))] w5441 (by kernel_rfl) ?_
                            refine W_nil ?_
                            refine N_then ?_
                            rcases gx_bif hm with ⟨hc5444, hm⟩ | ⟨hc5444, hm⟩
                            · refine G_cond_t (b := (decide (r5440 < 0))) hc5444 (by kernel_rfl) ?_
                              refine G_seq ?_
                              refine G_region ?_
                              refine W_run 1 [(4, .bool false)] w5441 (by kernel_rfl) ?_
                              refine W_nil ?_
                              refine N_then ?_
                              refine G_ret ?_
                              refine N_then_ret ?_
                              obtain rfl := Option.some.inj hm
                              refine N_ret [.bool false] (RVs_cons (RV_tmp (by kernel_rfl)) RVs_nil) ?_
                              exact ⟨rfl, M5443.pick [] (by kernel_rfl)⟩
                            · refine G_cond_f (b := (decide (r5440 < 0))) hc5444 (by kernel_rfl) ?_
                              refine G_skip ?_
                              refine N_then ?_
                              refine G_seq ?_
                              refine G_seq ?_
                              refine G_region ?_
                              refine W_run 3 [(137, .bool (r5440 != r5372.1))] w5441 (by kernel_rfl) ?_
                              refine W_nil ?_
                              refine N_then ?_
                              rcases gx_bif hm with ⟨hc5445, hm⟩ | ⟨hc5445, hm⟩
                              · refine G_cond_t (b := (r5440 != r5372.1)) hc5445 (by kernel_rfl) ?_
                                refine G_seq ?_
                                refine G_region ?_
                                refine W_run 1 [(4, .bool false)] w5441 (by kernel_rfl) ?_
                                refine W_nil ?_
                                refine N_then ?_
                                refine G_ret ?_
                                refine N_then_ret ?_
                                obtain rfl := Option.some.inj hm
                                refine N_ret [.bool false] (RVs_cons (RV_tmp (by kernel_rfl)) RVs_nil) ?_
                                exact ⟨rfl, M5443.pick [] (by kernel_rfl)⟩
                              · refine G_cond_f (b := (r5440 != r5372.1)) hc5445 (by kernel_rfl) ?_
                                refine G_skip ?_
                                refine N_then ?_
                                refine G_seq ?_
                                refine G_region ?_
                                refine W_run 1 [(4, .bool true)] w5441 (by kernel_rfl) ?_
                                refine W_nil ?_
                                refine N_then ?_
                                refine G_ret ?_
                                obtain rfl := Option.some.inj hm
                                refine N_ret [.bool true] (RVs_cons (RV_tmp (by kernel_rfl)) RVs_nil) ?_
                                exact ⟨rfl, M5443.pick [] (by kernel_rfl)⟩
theorem c_l_vBig (w : World) (x5451 : List Int) (p5453 : Option Addr) (c5454 : Nat) (h5455 : rdS encU8 w x5451 p5453 c5454) {r : Bool} (hm : M.l_vBig x5451 = some r) :
    Calls Try.prog 41 #[.slice p5453 x5451.length c5454] w fun e w' => e = .returned (.bool r) ∧ Mem [] w w' [] := by
  unfold M.l_vBig at hm
  refine C_enter Try.func41 rfl (by kernel_rfl) ?_
  have M0 := Mem.refl [] w
  refine G_seq ?_
  refine G_region ?_
  refine W_run 1 [(0, .slice p5453 x5451.length c5454)] w (by kernel_rfl) ?_
  refine W_nil ?_
  refine N_then ?_
  refine G_seq ?_
  refine G_region ?_
  refine W_run 4 [(2, .bool (decide ((x5451.length : Int) > 65536)))] w (by kernel_rfl) ?_
  refine W_nil ?_
  refine N_then ?_
  refine G_ret ?_
  obtain rfl := Option.some.inj hm
  refine N_ret [.bool (decide ((x5451.length : Int) > 65536))] (RVs_cons (RV_tmp (by kernel_rfl)) RVs_nil) ?_
  exact ⟨rfl, M0.pick [] (by kernel_rfl)⟩
theorem c_s_l1Cur_next (w : World) (x5498 : l1Cur) (p5502 : Option Addr) (c5503 : Nat) (h5504 : rdS encU8 w x5498.code p5502 c5503) (b5500 : Nat) (hA : ∀ q ∈ List.flatten [[(b5500, .cells ⟨[.slice p5502 x5498.code.length c5503, .int .i64 x5498.at_, .int .u64 x5498.seed]⟩ 73 (0, 0))]], w.heap[q.1]? = some q.2) (hN : (idsOf [[(b5500, .cells ⟨[.slice p5502 x5498.code.length c5503, .int .i64 x5498.at_, .int .u64 x5498.seed]⟩ 73 (0, 0))]]).Nodup) (hap5505 : apartX (idsOf [[(b5500, .cells ⟨[.slice p5502 x5498.code.length c5503, .int .i64 x5498.at_, .int .u64 x5498.seed]⟩ 73 (0, 0))]]) x5498.code p5502) {r : Int × Int × Int} (hm : M.s_l1Cur_next x5498 = some r) :
    Calls Try.prog 80 #[.pointer (some ⟨b5500, 0, none⟩)] w fun e w' => e = .returned (.int .i64 r.1) ∧ Mem (idsOf [[(b5500, .cells ⟨[.slice p5502 x5498.code.length c5503, .int .i64 x5498.at_, .int .u64 x5498.seed]⟩ 73 (0, 0))]]) w w' [[(b5500, .cells ⟨[.slice p5502 x5498.code.length c5503, .int .i64 r.2.1, .int .u64 r.2.2]⟩ 73 (0, 0))]] := by
  unfold M.s_l1Cur_next at hm
  refine C_enter Try.func80 rfl (by kernel_rfl) ?_
  have M0 := Mem.start' w [[(b5500, .cells ⟨[.slice p5502 x5498.code.length c5503, .int .i64 x5498.at_, .int .u64 x5498.seed]⟩ 73 (0, 0))]] hA hN
  refine G_seq ?_
  refine G_region ?_
  refine W_run 1 [(0, .pointer (some ⟨b5500, 0, none⟩))] w (by kernel_rfl) ?_
  refine W_nil ?_
  refine N_then ?_
  refine G_seq ?_
  refine G_region ?_
  refine W_run 1 [(0, .pointer (some ⟨b5500, 0, none⟩)), (3, .int .i64 0)] w (by kernel_rfl) ?_
  refine W_nil ?_
  refine N_then ?_
  refine G_seq ?_
  refine G_seq ?_
  refine G_quiet (by kernel_rfl) (by kernel_rfl) M0 ?_
  refine Z_runs [.pointer (some ⟨b5500, 0, none⟩), .pointer (some ⟨b5500, 0, none⟩), .pointer (some ⟨b5500, 1, none⟩)] [(0, .pointer (some ⟨b5500, 0, none⟩)), (3, .int .i64 0), (6, .pointer (some ⟨b5500, 1, none⟩))] (fun w_ => by kernel_rfl) (by kernel_rfl) ?_
  refine Z_val (.int .i64 x5498.at_) (by kernel_rfl) (fun w_ M_ => (E_load (e := 73) (fr := (0, 0)) _ _ false 1 b5500 1 [.slice p5502 x5498.code.length c5503, .int .i64 x5498.at_, .int .u64 x5498.seed] (.int .i64 x5498.at_) rfl (by kernel_rfl) (by kernel_rfl) (by kernel_rfl) (M_.blk 0 (b := b5500) (o := .cells ⟨[.slice p5502 x5498.code.length c5503, .int .i64 x5498.at_, .int .u64 x5498.seed]⟩ 73 (0, 0)) (by kernel_rfl)))) ?_
  refine Z_runs [.pointer (some ⟨b5500, 0, none⟩), .pointer (some ⟨b5500, 0, none⟩), .pointer (some ⟨b5500, 0, none⟩)] [(0, .pointer (some ⟨b5500, 0, none⟩)), (3, .int .i64 0), (7, .int .i64 x5498.at_), (10, .pointer (some ⟨b5500, 0, none⟩))] (fun w_ => by kernel_rfl) (by kernel_rfl) ?_
  refine Z_val (.slice p5502 x5498.code.length c5503) (by kernel_rfl) (fun w_ M_ => (E_load (e := 73) (fr := (0, 0)) _ _ false 1 b5500 0 [.slice p5502 x5498.code.length c5503, .int .i64 x5498.at_, .int .u64 x5498.seed] (.slice p5502 x5498.code.length c5503) rfl (by kernel_rfl) (by kernel_rfl) (by kernel_rfl) (M_.blk 0 (b := b5500) (o := .cells ⟨[.slice p5502 x5498.code.length c5503, .int .i64 x5498.at_, .int .u64 x5498.seed]⟩ 73 (0, 0)) (by kernel_rfl)))) ?_
  refine Z_runs [.int .i64 (x5498.code.length : Int), .bool (decide (x5498.at_ < (x5498.code.length : Int)))] [(0, .pointer (some ⟨b5500, 0, none⟩)), (3, .int .i64 0), (13, .bool (decide (x5498.at_ < (x5498.code.length : Int))))] (fun w_ => by kernel_rfl) (by kernel_rfl) ?_
  refine Z_end fun w5506 M5507 => ?_
  refine N_then ?_
  obtain ⟨o5512, ho5513, hm5514⟩ := gx_bind hm
  refine G_meet (fun a w' => Mem (idsOf [[(b5500, .cells ⟨[.slice p5502 x5498.code.length c5503, .int .i64 x5498.at_, .int .u64 x5498.seed]⟩ 73 (0, 0))]]) w w' [[(b5500, .cells ⟨[.slice p5502 x5498.code.length c5503, .int .i64 x5498.at_, .int .u64 x5498.seed]⟩ 73 (0, 0))]] ∧ Sat Try.f80.ntmps [(0, .pointer (some ⟨b5500, 0, none⟩)), (3, .int .i64 o5512)] a) ?_ ?_
  · have hm := ho5513
    rcases gx_bif hm with ⟨hc5515, hm⟩ | ⟨hc5515, hm⟩
    · refine G_cond_t (b := (decide (x5498.at_ < (x5498.code.length : Int)))) hc5515 (by kernel_rfl) ?_
      refine G_quiet (by kernel_rfl) (by kernel_rfl) M5507 ?_
      refine Z_runs [.pointer (some ⟨b5500, 0, none⟩), .pointer (some ⟨b5500, 0, none⟩), .pointer (some ⟨b5500, 0, none⟩)] [(0, .pointer (some ⟨b5500, 0, none⟩)), (3, .int .i64 0), (16, .pointer (some ⟨b5500, 0, none⟩))] (fun w_ => by kernel_rfl) (by kernel_rfl) ?_
      refine Z_val (.slice p5502 x5498.code.length c5503) (by kernel_rfl) (fun w_ M_ => (E_load (e := 73) (fr := (0, 0)) _ _ false 1 b5500 0 [.slice p5502 x5498.code.length c5503, .int .i64 x5498.at_, .int .u64 x5498.seed] (.slice p5502 x5498.code.length c5503) rfl (by kernel_rfl) (by kernel_rfl) (by kernel_rfl) (M_.blk 0 (b := b5500) (o := .cells ⟨[.slice p5502 x5498.code.length c5503, .int .i64 x5498.at_, .int .u64 x5498.seed]⟩ 73 (0, 0)) (by kernel_rfl)))) ?_
      refine Z_runs [.pointer (some ⟨b5500, 0, none⟩), .pointer (some ⟨b5500, 0, none⟩), .pointer (some ⟨b5500, 1, none⟩)] [(0, .pointer (some ⟨b5500, 0, none⟩)), (3, .int .i64 0), (17, .slice p5502 x5498.code.length c5503), (20, .pointer (some ⟨b5500, 1, none⟩))] (fun w_ => by kernel_rfl) (by kernel_rfl) ?_
      refine Z_val (.int .i64 x5498.at_) (by kernel_rfl) (fun w_ M_ => (E_load (e := 73) (fr := (0, 0)) _ _ false 1 b5500 1 [.slice p5502 x5498.code.length c5503, .int .i64 x5498.at_, .int .u64 x5498.seed] (.int .i64 x5498.at_) rfl (by kernel_rfl) (by kernel_rfl) (by kernel_rfl) (M_.blk 0 (b := b5500) (o := .cells ⟨[.slice p5502 x5498.code.length c5503, .int .i64 x5498.at_, .int .u64 x5498.seed]⟩ 73 (0, 0)) (by kernel_rfl)))) ?_
      obtain ⟨y5516, hy5516, hm⟩ := gx_bind hm
      refine Z_val (elemP p5502 (x5498.at_.toNat * 1)) (by kernel_rfl) (fun w_ M_ => (E_index (E := encU8) _ _ _ x5498.code.length c5503 .i64 x5498.at_ 1 (y := y5516) rfl (by kernel_rfl) (by kernel_rfl) (by kernel_rfl) (h5504.memX hap5505 M_) rfl hy5516)) ?_
      refine Z_val (.int .u8 y5516) (by kernel_rfl) (fun w_ M_ => (E_loadE (E := encU8) _ _ false 1 x5498.at_ 0 (x5498.at_.toNat * 1) y5516 (.int .u8 y5516) rfl (by kernel_rfl) (by kernel_rfl) (by kernel_rfl) (h5504.memX hap5505 M_) hy5516 rfl)) ?_
      refine Z_runs [.int .i64 (w64 y5516), .int .i64 (w64 y5516)] [(0, .pointer (some ⟨b5500, 0, none⟩)), (3, .int .i64 (w64 y5516))] (fun w_ => by kernel_rfl) (by kernel_rfl) ?_
      refine Z_end fun w5517 M5518 => ?_
      obtain rfl := Option.some.inj hm
      exact N_meet fun a ha => ⟨M5518.pick [0] (by kernel_rfl), ha.sub (by kernel_rfl)⟩
    · refine G_cond_f (b := (decide (x5498.at_ < (x5498.code.length : Int)))) hc5515 (by kernel_rfl) ?_
      refine G_skip ?_
      obtain rfl := Option.some.inj hm
      exact N_meet fun a ha => ⟨M5507.pick [0] (by kernel_rfl), ha.sub (by kernel_rfl)⟩
  · intro a5521 w5519 ⟨M5520, hS5522⟩
    refine N_use hS5522 ?_
    have hm := hm5514
    refine N_then ?_
    refine G_seq ?_
    refine G_region ?_
    refine W_run 3 [(0, .pointer (some ⟨b5500, 0, none⟩)), (3, .int .i64 o5512), (25, .pointer (some ⟨b5500, 0, none⟩)), (27, .pointer (some ⟨b5500, 1, none⟩))] w5519 (by kernel_rfl) ?_
    refine W_val (.int .i64 x5498.at_) w5519 (by kernel_rfl) (E_load (e := 73) (fr := (0, 0)) _ _ false 1 b5500 1 [.slice p5502 x5498.code.length c5503, .int .i64 x5498.at_, .int .u64 x5498.seed] (.int .i64 x5498.at_) rfl (by kernel_rfl) (by kernel_rfl) (by kernel_rfl) (M5520.blk 0 (b := b5500) (o := .cells ⟨[.slice p5502 x5498.code.length c5503, .int .i64 x5498.at_, .int .u64 x5498.seed]⟩ 73 (0, 0)) (by kernel_rfl))) ?_
    refine W_run 3 [(0, .pointer (some ⟨b5500, 0, none⟩)), (3, .int .i64 o5512), (29, .int .i64 (w64 (x5498.at_ + 1))), (31, .pointer (some ⟨b5500, 1, none⟩))] w5519 (by kernel_rfl) ?_
    refine W_store _ _ _ false 1 b5500 1 [.slice p5502 x5498.code.length c5503, .int .i64 x5498.at_, .int .u64 x5498.seed] 73 (.int .i64 (w64 (x5498.at_ + 1))) 0 [.slice p5502 x5498.code.length c5503, .int .i64 (w64 (x5498.at_ + 1)), .int .u64 x5498.seed] M5520 (by kernel_rfl) rfl (by kernel_rfl) (by kernel_rfl) (by kernel_rfl) (by kernel_rfl) (by kernel_rfl) (by kernel_rfl) (by kernel_rfl) (by kernel_rfl) ?_
    intro w5523 M5524
    refine W_nil ?_
    refine N_then ?_
    refine G_seq ?_
    refine G_region ?_
    refine W_run 4 [(0, .pointer (some ⟨b5500, 0, none⟩)), (3, .int .i64 o5512), (32, .pointer (some ⟨b5500, 0, none⟩)), (35, .pointer (some ⟨b5500, 2, none⟩))] w5523 (by kernel_rfl) ?_
    refine W_val (.int .u64 x5498.seed) w5523 (by kernel_rfl) (E_load (e := 73) (fr := (0, 0)) _ _ false 1 b5500 2 [.slice p5502 x5498.code.length c5503, .int .i64 (w64 (x5498.at_ + 1)), .int .u64 x5498.seed] (.int .u64 x5498.seed) rfl (by kernel_rfl) (by kernel_rfl) (by kernel_rfl) (M5524.blk 0 (b := b5500) (o := .cells ⟨[.slice p5502 x5498.code.length c5503, .int .i64 (w64 (x5498.at_ + 1)), .int .u64 x5498.seed]⟩ 73 (0, 0)) (by kernel_rfl))) ?_
    refine W_run 7 [(0, .pointer (some ⟨b5500, 0, none⟩)), (3, .int .i64 o5512), (41, .int .u64 (IntKind.u64.wrap ((IntKind.u64.wrap ((IntKind.u64.wrap (x5498.seed * 6364136223846793005)) + (IntKind.u64.wrap o5512))) + 843843))), (43, .pointer (some ⟨b5500, 2, none⟩))] w5523 (by kernel_rfl) ?_
    refine W_store _ _ _ false 1 b5500 2 [.slice p5502 x5498.code.length c5503, .int .i64 (w64 (x5498.at_ + 1)), .int .u64 x5498.seed] 73 (.int .u64 (IntKind.u64.wrap ((IntKind.u64.wrap ((IntKind.u64.wrap (x5498.seed * 6364136223846793005)) + (IntKind.u64.wrap o5512))) + 843843))) 0 [.slice p5502 x5498.code.length c5503, .int .i64 (w64 (x5498.at_ + 1)), .int .u64 (IntKind.u64.wrap ((IntKind.u64.wrap ((IntKind.u64.wrap (x5498.seed * 6364136223846793005)) + (IntKind.u64.wrap o5512))) + 843843))] M5524 (by kernel_rfl) rfl (by kernel_rfl) (by kernel_rfl) (by kernel_rfl) (by kernel_rfl) (by kernel_rfl) (by kernel_rfl) (by kernel_rfl) (by kernel_rfl) ?_
    intro w5525 M5526
    refine W_nil ?_
    refine N_then ?_
    refine G_seq ?_
    refine G_seq ?_
    refine G_quiet (by kernel_rfl) (by kernel_rfl) M5526 ?_
    refine Z_runs [.pointer (some ⟨b5500, 0, none⟩), .pointer (some ⟨b5500, 0, none⟩), .pointer (some ⟨b5500, 1, none⟩)] [(0, .pointer (some ⟨b5500, 0, none⟩)), (3, .int .i64 o5512), (46, .pointer (some ⟨b5500, 1, none⟩))] (fun w_ => by kernel_rfl) (by kernel_rfl) ?_
    refine Z_val (.int .i64 (w64 (x5498.at_ + 1))) (by kernel_rfl) (fun w_ M_ => (E_load (e := 73) (fr := (0, 0)) _ _ false 1 b5500 1 [.slice p5502 x5498.code.length c5503, .int .i64 (w64 (x5498.at_ + 1)), .int .u64 (IntKind.u64.wrap ((IntKind.u64.wrap ((IntKind.u64.wrap (x5498.seed * 6364136223846793005)) + (IntKind.u64.wrap o5512))) + 843843))] (.int .i64 (w64 (x5498.at_ + 1))) rfl (by kernel_rfl) (by kernel_rfl) (by kernel_rfl) (M_.blk 0 (b := b5500) (o := .cells ⟨[.slice p5502 x5498.code.length c5503, .int .i64 (w64 (x5498.at_ + 1)), .int .u64 (IntKind.u64.wrap ((IntKind.u64.wrap ((IntKind.u64.wrap (x5498.seed * 6364136223846793005)) + (IntKind.u64.wrap o5512))) + 843843))]⟩ 73 (0, 0)) (by kernel_rfl)))) ?_
    refine Z_runs [.pointer (some ⟨b5500, 0, none⟩), .pointer (some ⟨b5500, 0, none⟩), .pointer (some ⟨b5500, 0, none⟩)] [(0, .pointer (some ⟨b5500, 0, none⟩)), (3, .int .i64 o5512), (47, .int .i64 (w64 (x5498.at_ + 1))), (50, .pointer (some ⟨b5500, 0, none⟩))] (fun w_ => by kernel_rfl) (by kernel_rfl) ?_
    refine Z_val (.slice p5502 x5498.code.length c5503) (by kernel_rfl) (fun w_ M_ => (E_load (e := 73) (fr := (0, 0)) _ _ false 1 b5500 0 [.slice p5502 x5498.code.length c5503, .int .i64 (w64 (x5498.at_ + 1)), .int .u64 (IntKind.u64.wrap ((IntKind.u64.wrap ((IntKind.u64.wrap (x5498.seed * 6364136223846793005)) + (IntKind.u64.wrap o5512))) + 843843))] (.slice p5502 x5498.code.length c5503) rfl (by kernel_rfl) (by kernel_rfl) (by kernel_rfl) (M_.blk 0 (b := b5500) (o := .cells ⟨[.slice p5502 x5498.code.length c5503, .int .i64 (w64 (x5498.at_ + 1)), .int .u64 (IntKind.u64.wrap ((IntKind.u64.wrap ((IntKind.u64.wrap (x5498.seed * 6364136223846793005)) + (IntKind.u64.wrap o5512))) + 843843))]⟩ 73 (0, 0)) (by kernel_rfl)))) ?_
    refine Z_runs [.int .i64 (x5498.code.length : Int), .bool (decide ((w64 (x5498.at_ + 1)) ≤ (x5498.code.length : Int)))] [(0, .pointer (some ⟨b5500, 0, none⟩)), (3, .int .i64 o5512), (53, .bool (decide ((w64 (x5498.at_ + 1)) ≤ (x5498.code.length : Int))))] (fun w_ => by kernel_rfl) (by kernel_rfl) ?_
    refine Z_end fun w5527 M5528 => ?_
    refine N_then ?_
    rcases gx_bif hm with ⟨hc5529, hm⟩ | ⟨hc5529, hm⟩
    · refine G_cond_t (b := (decide ((w64 (x5498.at_ + 1)) ≤ (x5498.code.length : Int)))) hc5529 (by kernel_rfl) ?_
      refine G_seq ?_
      refine G_region ?_
      refine W_run 2 [(2, .int .i64 o5512)] w5527 (by kernel_rfl) ?_
      refine W_nil ?_
      refine N_then ?_
      refine G_ret ?_
      refine N_then_ret ?_
      obtain rfl := Option.some.inj hm
      refine N_ret [.int .i64 o5512] (RVs_cons (RV_tmp (by kernel_rfl)) RVs_nil) ?_
      exact ⟨rfl, M5528.pick [0] (by kernel_rfl)⟩
    · refine G_cond_f (b := (decide ((w64 (x5498.at_ + 1)) ≤ (x5498.code.length : Int)))) hc5529 (by kernel_rfl) ?_
      refine G_skip ?_
      refine N_then ?_
      refine G_seq ?_
      refine G_region ?_
      refine W_run 3 [(57, .pointer (some ⟨b5500, 2, none⟩))] w5527 (by kernel_rfl) ?_
      refine W_val (.int .u64 (IntKind.u64.wrap ((IntKind.u64.wrap ((IntKind.u64.wrap (x5498.seed * 6364136223846793005)) + (IntKind.u64.wrap o5512))) + 843843))) w5527 (by kernel_rfl) (E_load (e := 73) (fr := (0, 0)) _ _ false 1 b5500 2 [.slice p5502 x5498.code.length c5503, .int .i64 (w64 (x5498.at_ + 1)), .int .u64 (IntKind.u64.wrap ((IntKind.u64.wrap ((IntKind.u64.wrap (x5498.seed * 6364136223846793005)) + (IntKind.u64.wrap o5512))) + 843843))] (.int .u64 (IntKind.u64.wrap ((IntKind.u64.wrap ((IntKind.u64.wrap (x5498.seed * 6364136223846793005)) + (IntKind.u64.wrap o5512))) + 843843))) rfl (by kernel_rfl) (by kernel_rfl) (by kernel_rfl) (M5528.blk 0 (b := b5500) (o := .cells ⟨[.slice p5502 x5498.code.length c5503, .int .i64 (w64 (x5498.at_ + 1)), .int .u64 (IntKind.u64.wrap ((IntKind.u64.wrap ((IntKind.u64.wrap (x5498.seed * 6364136223846793005)) + (IntKind.u64.wrap o5512))) + 843843))]⟩ 73 (0, 0)) (by kernel_rfl))) ?_
      refine W_run 4 [(2, .int .i64 (w64 (gxAnd .u64 ((IntKind.u64.wrap ((IntKind.u64.wrap ((IntKind.u64.wrap (x5498.seed * 6364136223846793005)) + (IntKind.u64.wrap o5512))) + 843843)).fdiv (2 ^ 40)) 255)))] w5527 (by kernel_rfl) ?_
      refine W_nil ?_
      refine N_then ?_
      refine G_ret ?_
      obtain rfl := Option.some.inj hm
      refine N_ret [.int .i64 (w64 (gxAnd .u64 ((IntKind.u64.wrap ((IntKind.u64.wrap ((IntKind.u64.wrap (x5498.seed * 6364136223846793005)) + (IntKind.u64.wrap o5512))) + 843843)).fdiv (2 ^ 40)) 255))] (RVs_cons (RV_tmp (by kernel_rfl)) RVs_nil) ?_
      exact ⟨rfl, M5528.pick [0] (by kernel_rfl)⟩
theorem c_s_l1Cur_pick (w : World) (x5488 : l1Cur) (p5492 : Option Addr) (c5493 : Nat) (h5494 : rdS encU8 w x5488.code p5492 c5493) (b5490 : Nat) (x5496 : Int) (hA : ∀ q ∈ List.flatten [[(b5490, .cells ⟨[.slice p5492 x5488.code.length c5493, .int .i64 x5488.at_, .int .u64 x5488.seed]⟩ 73 (0, 0))]], w.heap[q.1]? = some q.2) (hN : (idsOf [[(b5490, .cells ⟨[.slice p5492 x5488.code.length c5493, .int .i64 x5488.at_, .int .u64 x5488.seed]⟩ 73 (0, 0))]]).Nodup) (hap5495 : apartX (idsOf [[(b5490, .cells ⟨[.slice p5492 x5488.code.length c5493, .int .i64 x5488.at_, .int .u64 x5488.seed]⟩ 73 (0, 0))]]) x5488.code p5492) {r : Int × Int × Int} (hm : M.s_l1Cur_pick x5488 x5496 = some r) :
    Calls Try.prog 73 #[.pointer (some ⟨b5490, 0, none⟩), .int .i64 x5496] w fun e w' => e = .returned (.int .i64 r.1) ∧ Mem (idsOf [[(b5490, .cells ⟨[.slice p5492 x5488.code.length c5493, .int .i64 x5488.at_, .int .u64 x5488.seed]⟩ 73 (0, 0))]]) w w' [[(b5490, .cells ⟨[.slice p5492 x5488.code.length c5493, .int .i64 r.2.1, .int .u64 r.2.2]⟩ 73 (0, 0))]] := by
  unfold M.s_l1Cur_pick at hm
  refine C_enter Try.func73 rfl (by kernel_rfl) ?_
  have M0 := Mem.start' w [[(b5490, .cells ⟨[.slice p5492 x5488.code.length c5493, .int .i64 x5488.at_, .int .u64 x5488.seed]⟩ 73 (0, 0))]] hA hN
  refine G_seq ?_
  refine G_region ?_
  refine W_run 1 [(0, .pointer (some ⟨b5490, 0, none⟩)), (1, .int .i64 x5496)] w (by kernel_rfl) ?_
  refine W_nil ?_
  refine N_then ?_
  refine G_seq ?_
  refine G_seq ?_
  refine G_region ?_
  refine W_run 2 [(0, .pointer (some ⟨b5490, 0, none⟩)), (1, .int .i64 x5496), (7, .bool (decide (x5496 ≤ 1)))] w (by kernel_rfl) ?_
  refine W_nil ?_
  refine N_then ?_
  rcases gx_bif hm with ⟨hc5497, hm⟩ | ⟨hc5497, hm⟩
  · refine G_cond_t (b := (decide (x5496 ≤ 1))) hc5497 (by kernel_rfl) ?_
    refine G_seq ?_
    refine G_region ?_
    refine W_run 1 [(4, .int .i64 0)] w (by kernel_rfl) ?_
    refine W_nil ?_
    refine N_then ?_
    refine G_ret ?_
    refine N_then_ret ?_
    obtain rfl := Option.some.inj hm
    refine N_ret [.int .i64 0] (RVs_cons (RV_tmp (by kernel_rfl)) RVs_nil) ?_
    exact ⟨rfl, M0.pick [0] (by kernel_rfl)⟩
  · refine G_cond_f (b := (decide (x5496 ≤ 1))) hc5497 (by kernel_rfl) ?_
    refine G_skip ?_
    refine N_then ?_
    refine G_seq ?_
    refine G_region ?_
    refine W_run 1 [(0, .pointer (some ⟨b5490, 0, none⟩)), (1, .int .i64 x5496), (8, .pointer (some ⟨b5490, 0, none⟩))] w (by kernel_rfl) ?_
    obtain ⟨r5530, hr5530, hm⟩ := gx_bind hm
    refine W_call 80 #[.pointer (some ⟨b5490, 0, none⟩)] (by kernel_rfl) (by kernel_rfl) ?_
    refine (c_s_l1Cur_next w x5488 p5492 c5493 (h5494.memX hap5495 M0) b5490 (M0.hasPick [0]) (M0.nodupPick [0] (by kernel_rfl)) (apartX.old h5494 hap5495 M0 [0]) hr5530).mono ?_
    rintro e_ w5531 ⟨rfl, K5532⟩
    have M5533 := M0.callF' [0] [] (by kernel_rfl) K5532
    refine ⟨_, rfl, ?_⟩
    refine W_run 1 [(0, .pointer (some ⟨b5490, 0, none⟩)), (1, .int .i64 x5496), (5, .int .i64 r5530.1)] w5531 (by kernel_rfl) ?_
    refine W_nil ?_
    refine N_then ?_
    refine G_seq ?_
    refine G_seq ?_
    refine G_region ?_
    refine W_run 2 [(0, .pointer (some ⟨b5490, 0, none⟩)), (1, .int .i64 x5496), (5, .int .i64 r5530.1), (11, .bool (decide (x5496 > 200)))] w5531 (by kernel_rfl) ?_
    refine W_nil ?_
    refine N_then ?_
    obtain ⟨o5539, ho5540, hm5541⟩ := gx_bind hm
    refine G_meet (fun a w' => Mem (idsOf [[(b5490, .cells ⟨[.slice p5492 x5488.code.length c5493, .int .i64 x5488.at_, .int .u64 x5488.seed]⟩ 73 (0, 0))]]) w w' [[(b5490, .cells ⟨[.slice p5492 x5488.code.length c5493, .int .i64 o5539.2.1, .int .u64 o5539.2.2]⟩ 73 (0, 0))]] ∧ Sat Try.f73.ntmps [(1, .int .i64 x5496), (5, .int .i64 o5539.1)] a) ?_ ?_
    · have hm := ho5540
      rcases gx_bif hm with ⟨hc5542, hm⟩ | ⟨hc5542, hm⟩
      · refine G_cond_t (b := (decide (x5496 > 200))) hc5542 (by kernel_rfl) ?_
        refine G_region ?_
        refine W_run 3 [(1, .int .i64 x5496), (5, .int .i64 r5530.1), (13, .int .i64 (w64 (r5530.1 * 256))), (14, .pointer (some ⟨b5490, 0, none⟩))] w5531 (by kernel_rfl) ?_
        obtain ⟨r5543, hr5543, hm⟩ := gx_bind hm
        refine W_call 80 #[.pointer (some ⟨b5490, 0, none⟩)] (by kernel_rfl) (by kernel_rfl) ?_
        refine (c_s_l1Cur_next w5531 (⟨x5488.code, r5530.2.1, r5530.2.2⟩ : l1Cur) p5492 c5493 (h5494.memX hap5495 M5533) b5490 (M5533.hasPick [0]) (M5533.nodupPick [0] (by kernel_rfl)) (apartX.old h5494 hap5495 M5533 [0]) hr5543).mono ?_
        rintro e_ w5544 ⟨rfl, K5545⟩
        have M5546 := M5533.callF' [0] [] (by kernel_rfl) K5545
        refine ⟨_, rfl, ?_⟩
        refine W_run 2 [(1, .int .i64 x5496), (5, .int .i64 (w64 ((w64 (r5530.1 * 256)) + r5543.1)))] w5544 (by kernel_rfl) ?_
        refine W_nil ?_
        obtain rfl := Option.some.inj hm
        exact N_meet fun a ha => ⟨M5546.pick [0] (by kernel_rfl), ha.sub (by kernel_rfl)⟩
      · refine G_cond_f (b := (decide (x5496 > 200))) hc5542 (by kernel_rfl) ?_
        refine G_skip ?_
        obtain rfl := Option.some.inj hm
        exact N_meet fun a ha => ⟨M5533.pick [0] (by kernel_rfl), ha.sub (by kernel_rfl)⟩
    · intro a5549 w5547 ⟨M5548, hS5550⟩
      refine N_use hS5550 ?_
      have hm := hm5541
      refine N_then ?_
      refine G_seq ?_
      refine G_region ?_
      refine W_run 2 [(17, .int .i64 o5539.1), (18, .int .i64 x5496)] w5547 (by kernel_rfl) ?_
      obtain ⟨q5551, hq5551, hm⟩ := gx_bind hm
      refine W_val (.int .i64 q5551) w5547 (by kernel_rfl) (E_rem _ _ _ _ o5539.1 x5496 q5551 rfl (by kernel_rfl) (by kernel_rfl) hq5551) ?_
      refine W_run 1 [(4, .int .i64 q5551)] w5547 (by kernel_rfl) ?_
      refine W_nil ?_
      refine N_then ?_
      refine G_ret ?_
      obtain rfl := Option.some.inj hm
      refine N_ret [.int .i64 q5551] (RVs_cons (RV_tmp (by kernel_rfl)) RVs_nil) ?_
      exact ⟨rfl, M5548.pick [0] (by kernel_rfl)⟩
theorem c_s_l1Cur_one (w : World) (x5479 : l1Cur) (p5483 : Option Addr) (c5484 : Nat) (h5485 : rdS encU8 w x5479.code p5483 c5484) (b5481 : Nat) (x5487 : Int) (hA : ∀ q ∈ List.flatten [[(b5481, .cells ⟨[.slice p5483 x5479.code.length c5484, .int .i64 x5479.at_, .int .u64 x5479.seed]⟩ 73 (0, 0))]], w.heap[q.1]? = some q.2) (hN : (idsOf [[(b5481, .cells ⟨[.slice p5483 x5479.code.length c5484, .int .i64 x5479.at_, .int .u64 x5479.seed]⟩ 73 (0, 0))]]).Nodup) (hap5486 : apartX (idsOf [[(b5481, .cells ⟨[.slice p5483 x5479.code.length c5484, .int .i64 x5479.at_, .int .u64 x5479.seed]⟩ 73 (0, 0))]]) x5479.code p5483) {r : Bool × Int × Int} (hm : M.s_l1Cur_one x5479 x5487 = some r) :
    Calls Try.prog 71 #[.pointer (some ⟨b5481, 0, none⟩), .int .i64 x5487] w fun e w' => e = .returned (.bool r.1) ∧ Mem (idsOf [[(b5481, .cells ⟨[.slice p5483 x5479.code.length c5484, .int .i64 x5479.at_, .int .u64 x5479.seed]⟩ 73 (0, 0))]]) w w' [[(b5481, .cells ⟨[.slice p5483 x5479.code.length c5484, .int .i64 r.2.1, .int .u64 r.2.2]⟩ 73 (0, 0))]] := by
  unfold M.s_l1Cur_one at hm
  refine C_enter Try.func71 rfl (by kernel_rfl) ?_
  have M0 := Mem.start' w [[(b5481, .cells ⟨[.slice p5483 x5479.code.length c5484, .int .i64 x5479.at_, .int .u64 x5479.seed]⟩ 73 (0, 0))]] hA hN
  refine G_seq ?_
  refine G_region ?_
  refine W_run 1 [(0, .pointer (some ⟨b5481, 0, none⟩)), (1, .int .i64 x5487)] w (by kernel_rfl) ?_
  refine W_nil ?_
  refine N_then ?_
  refine G_seq ?_
  refine G_region ?_
  refine W_run 2 [(5, .pointer (some ⟨b5481, 0, none⟩)), (6, .int .i64 x5487)] w (by kernel_rfl) ?_
  obtain ⟨r5552, hr5552, hm⟩ := gx_bind hm
  refine W_call 73 #[.pointer (some ⟨b5481, 0, none⟩), .int .i64 x5487] (by kernel_rfl) (by kernel_rfl) ?_
  refine (c_s_l1Cur_pick w x5479 p5483 c5484 (h5485.memX hap5486 M0) b5481 x5487 (M0.hasPick [0]) (M0.nodupPick [0] (by kernel_rfl)) (apartX.old h5485 hap5486 M0 [0]) hr5552).mono ?_
  rintro e_ w5553 ⟨rfl, K5554⟩
  have M5555 := M0.callF' [0] [] (by kernel_rfl) K5554
  refine ⟨_, rfl, ?_⟩
  refine W_run 2 [(4, .bool (r5552.1 == 0))] w5553 (by kernel_rfl) ?_
  refine W_nil ?_
  refine N_then ?_
  refine G_ret ?_
  obtain rfl := Option.some.inj hm
  refine N_ret [.bool (r5552.1 == 0)] (RVs_cons (RV_tmp (by kernel_rfl)) RVs_nil) ?_
  exact ⟨rfl, M5555.pick [0] (by kernel_rfl)⟩
theorem c_s_l1Cur_among (w : World) (x5568 : l1Cur) (p5572 : Option Addr) (c5573 : Nat) (h5574 : rdS encU8 w x5568.code p5572 c5573) (b5570 : Nat) (x5576 : List Int) (p5578 : Option Addr) (c5579 : Nat) (h5580 : rdS encI w x5576 p5578 c5579) (hA : ∀ q ∈ List.flatten [[(b5570, .cells ⟨[.slice p5572 x5568.code.length c5573, .int .i64 x5568.at_, .int .u64 x5568.seed]⟩ 73 (0, 0))]], w.heap[q.1]? = some q.2) (hN : (idsOf [[(b5570, .cells ⟨[.slice p5572 x5568.code.length c5573, .int .i64 x5568.at_, .int .u64 x5568.seed]⟩ 73 (0, 0))]]).Nodup) (hap5575 : apartX (idsOf [[(b5570, .cells ⟨[.slice p5572 x5568.code.length c5573, .int .i64 x5568.at_, .int .u64 x5568.seed]⟩ 73 (0, 0))]]) x5568.code p5572) (hap5581 : apartX (idsOf [[(b5570, .cells ⟨[.slice p5572 x5568.code.length c5573, .int .i64 x5568.at_, .int .u64 x5568.seed]⟩ 73 (0, 0))]]) x5576 p5578) {r : Int × Int × Int} (hm : M.s_l1Cur_among x5568 x5576 = some r) :
    Calls Try.prog 75 #[.pointer (some ⟨b5570, 0, none⟩), .slice p5578 x5576.length c5579] w fun e w' => e = .returned (.int .i64 r.1) ∧ Mem (idsOf [[(b5570, .cells ⟨[.slice p5572 x5568.code.length c5573, .int .i64 x5568.at_, .int .u64 x5568.seed]⟩ 73 (0, 0))]]) w w' [[(b5570, .cells ⟨[.slice p5572 x5568.code.length c5573, .int .i64 r.2.1, .int .u64 r.2.2]⟩ 73 (0, 0))]] := by
  unfold M.s_l1Cur_among at hm
  refine C_enter Try.func75 rfl (by kernel_rfl) ?_
  have M0 := Mem.start' w [[(b5570, .cells ⟨[.slice p5572 x5568.code.length c5573, .int .i64 x5568.at_, .int .u64 x5568.seed]⟩ 73 (0, 0))]] hA hN
  refine G_seq ?_
  refine G_region ?_
  refine W_run 1 [(0, .pointer (some ⟨b5570, 0, none⟩)), (1, .slice p5578 x5576.length c5579)] w (by kernel_rfl) ?_
  refine W_nil ?_
  refine N_then ?_
  refine G_seq ?_
  refine G_region ?_
  refine W_run 4 [(5, .slice p5578 x5576.length c5579), (6, .pointer (some ⟨b5570, 0, none⟩)), (8, .int .i64 (x5576.length : Int))] w (by kernel_rfl) ?_
  obtain ⟨r5582, hr5582, hm⟩ := gx_bind hm
  refine W_call 73 #[.pointer (some ⟨b5570, 0, none⟩), .int .i64 (x5576.length : Int)] (by kernel_rfl) (by kernel_rfl) ?_
  refine (c_s_l1Cur_pick w x5568 p5572 c5573 (h5574.memX hap5575 M0) b5570 (x5576.length : Int) (M0.hasPick [0]) (M0.nodupPick [0] (by kernel_rfl)) (apartX.old h5574 hap5575 M0 [0]) hr5582).mono ?_
  rintro e_ w5583 ⟨rfl, K5584⟩
  have M5585 := M0.callF' [0] [] (by kernel_rfl) K5584
  refine ⟨_, rfl, ?_⟩
  obtain ⟨y5586, hy5586, hm⟩ := gx_bind hm
  refine W_val (elemP p5578 (r5582.1.toNat * 1)) w5583 (by kernel_rfl) (E_index (E := encI) _ _ _ x5576.length c5579 .i64 r5582.1 1 (y := y5586) rfl (by kernel_rfl) (by kernel_rfl) (by kernel_rfl) (h5580.memX hap5581 M5585) rfl hy5586) ?_
  refine W_val (.int .i64 y5586) w5583 (by kernel_rfl) (E_loadE (E := encI) _ _ false 1 r5582.1 0 (r5582.1.toNat * 1) y5586 (.int .i64 y5586) rfl (by kernel_rfl) (by kernel_rfl) (by kernel_rfl) (h5580.memX hap5581 M5585) hy5586 rfl) ?_
  refine W_run 1 [(4, .int .i64 y5586)] w5583 (by kernel_rfl) ?_
  refine W_nil ?_
  refine N_then ?_
  refine G_ret ?_
  obtain rfl := Option.some.inj hm
  refine N_ret [.int .i64 y5586] (RVs_cons (RV_tmp (by kernel_rfl)) RVs_nil) ?_
  exact ⟨rfl, M5585.pick [0] (by kernel_rfl)⟩
theorem c_s_l1Cur_word16 (w : World) (x5471 : l1Cur) (p5475 : Option Addr) (c5476 : Nat) (h5477 : rdS encU8 w x5471.code p5475 c5476) (b5473 : Nat) (hA : ∀ q ∈ List.flatten [[(b5473, .cells ⟨[.slice p5475 x5471.code.length c5476, .int .i64 x5471.at_, .int .u64 x5471.seed]⟩ 73 (0, 0))]], w.heap[q.1]? = some q.2) (hN : (idsOf [[(b5473, .cells ⟨[.slice p5475 x5471.code.length c5476, .int .i64 x5471.at_, .int .u64 x5471.seed]⟩ 73 (0, 0))]]).Nodup) (hap5478 : apartX (idsOf [[(b5473, .cells ⟨[.slice p5475 x5471.code.length c5476, .int .i64 x5471.at_, .int .u64 x5471.seed]⟩ 73 (0, 0))]]) x5471.code p5475) {r : Int × Int × Int} (hm : M.s_l1Cur_word16 x5471 = some r) :
    Calls Try.prog 70 #[.pointer (some ⟨b5473, 0, none⟩)] w fun e w' => e = .returned (.int .i64 r.1) ∧ Mem (idsOf [[(b5473, .cells ⟨[.slice p5475 x5471.code.length c5476, .int .i64 x5471.at_, .int .u64 x5471.seed]⟩ 73 (0, 0))]]) w w' [[(b5473, .cells ⟨[.slice p5475 x5471.code.length c5476, .int .i64 r.2.1, .int .u64 r.2.2]⟩ 73 (0, 0))]] := by
  unfold M.s_l1Cur_word16 at hm
  refine C_enter Try.func70 rfl (by kernel_rfl) ?_
  have M0 := Mem.start' w [[(b5473, .cells ⟨[.slice p5475 x5471.code.length c5476, .int .i64 x5471.at_, .int .u64 x5471.seed]⟩ 73 (0, 0))]] hA hN
  refine G_seq ?_
  refine G_region ?_
  refine W_run 1 [(0, .pointer (some ⟨b5473, 0, none⟩))] w (by kernel_rfl) ?_
  refine W_nil ?_
  refine N_then ?_
  refine G_seq ?_
  refine G_seq ?_
  refine G_region ?_
  refine W_run 1 [(0, .pointer (some ⟨b5473, 0, none⟩)), (3, .pointer (some ⟨b5473, 0, none⟩))] w (by kernel_rfl) ?_
  obtain ⟨r5556, hr5556, hm⟩ := gx_bind hm
  refine W_call 71 #[.pointer (some ⟨b5473, 0, none⟩), .int .i64 32] (by kernel_rfl) (by kernel_rfl) ?_
  refine (c_s_l1Cur_one w x5471 p5475 c5476 (h5477.memX hap5478 M0) b5473 32 (M0.hasPick [0]) (M0.nodupPick [0] (by kernel_rfl)) (apartX.old h5477 hap5478 M0 [0]) hr5556).mono ?_
  rintro e_ w5557 ⟨rfl, K5558⟩
  have M5559 := M0.callF' [0] [] (by kernel_rfl) K5558
  refine ⟨_, rfl, ?_⟩
  refine W_nil ?_
  refine N_then ?_
  rcases gx_bif hm with ⟨hc5560, hm⟩ | ⟨hc5560, hm⟩
  · refine G_cond_t (b := r5556.1) hc5560 (by kernel_rfl) ?_
    refine G_seq ?_
    refine G_region ?_
    refine W_run 1 [(5, .pointer (some ⟨b5473, 0, none⟩))] w5557 (by kernel_rfl) ?_
    refine W_lit (E := encI) [(-1), 65536] 2 [.int .i64 (-1), .int .i64 65536] 3 M5559 (by kernel_rfl) (by kernel_rfl) (by kernel_rfl) (by kernel_rfl) (by kernel_rfl) ?_
    intro p5561 c5562 sg5563 w5564 ho5565 M5566
    obtain ⟨r5587, hr5587, hm⟩ := gx_bind hm
    refine W_call 75 #[.pointer (some ⟨b5473, 0, none⟩), .slice p5561 [(-1), 65536].length c5562] (by kernel_rfl) (by kernel_rfl) ?_
    refine (c_s_l1Cur_among w5564 (⟨x5471.code, r5556.2.1, r5556.2.2⟩ : l1Cur) p5475 c5476 (h5477.memX hap5478 M5566) b5473 [(-1), 65536] p5561 c5562 (ho5565.rd M5566 1 (by kernel_rfl)) (M5566.hasPick [0]) (M5566.nodupPick [0] (by kernel_rfl)) (apartX.old h5477 hap5478 M5566 [0]) (apartX.own ho5565 M5566 1 (by kernel_rfl) [0] (by kernel_rfl)) hr5587).mono ?_
    rintro e_ w5588 ⟨rfl, K5589⟩
    have M5590 := M5566.callF' [0] [1] (by kernel_rfl) K5589
    refine ⟨_, rfl, ?_⟩
    refine W_run 1 [(2, .int .i64 r5587.1)] w5588 (by kernel_rfl) ?_
    refine W_nil ?_
    refine N_then ?_
    refine G_ret ?_
    refine N_then_ret ?_
    obtain rfl := Option.some.inj hm
    refine N_ret [.int .i64 r5587.1] (RVs_cons (RV_tmp (by kernel_rfl)) RVs_nil) ?_
    exact ⟨rfl, M5590.pick [1] (by kernel_rfl)⟩
  · refine G_cond_f (b := r5556.1) hc5560 (by kernel_rfl) ?_
    refine G_skip ?_
    refine N_then ?_
    refine G_seq ?_
    refine G_region ?_
    refine W_run 1 [(8, .pointer (some ⟨b5473, 0, none⟩))] w5557 (by kernel_rfl) ?_
    refine W_lit (E := encI) [0, 1, 2, 7, 100, 32768, 65534, 65535] 8 [.int .i64 0, .int .i64 1, .int .i64 2, .int .i64 7, .int .i64 100, .int .i64 32768, .int .i64 65534, .int .i64 65535] 3 M5559 (by kernel_rfl) (by kernel_rfl) (by kernel_rfl) (by kernel_rfl) (by kernel_rfl) ?_
    intro p5591 c5592 sg5593 w5594 ho5595 M5596
    obtain ⟨r5598, hr5598, hm⟩ := gx_bind hm
    refine W_call 75 #[.pointer (some ⟨b5473, 0, none⟩), .slice p5591 [0, 1, 2, 7, 100, 32768, 65534, 65535].length c5592] (by kernel_rfl) (by kernel_rfl) ?_
    refine (c_s_l1Cur_among w5594 (⟨x5471.code, r5556.2.1, r5556.2.2⟩ : l1Cur) p5475 c5476 (h5477.memX hap5478 M5596) b5473 [0, 1, 2, 7, 100, 32768, 65534, 65535] p5591 c5592 (ho5595.rd M5596 1 (by kernel_rfl)) (M5596.hasPick [0]) (M5596.nodupPick [0] (by kernel_rfl)) (apartX.old h5477 hap5478 M5596 [0]) (apartX.own ho5595 M5596 1 (by kernel_rfl) [0] (by kernel_rfl)) hr5598).mono ?_
    rintro e_ w5599 ⟨rfl, K5600⟩
    have M5601 := M5596.callF' [0] [1] (by kernel_rfl) K5600
    refine ⟨_, rfl, ?_⟩
    refine W_run 1 [(2, .int .i64 r5598.1)] w5599 (by kernel_rfl) ?_
    refine W_nil ?_
    refine N_then ?_
    refine G_ret ?_
    obtain rfl := Option.some.inj hm
    refine N_ret [.int .i64 r5598.1] (RVs_cons (RV_tmp (by kernel_rfl)) RVs_nil) ?_
    exact ⟨rfl, M5601.pick [1] (by kernel_rfl)⟩
end Go.Proofs.Ytopnablbecepjaa
