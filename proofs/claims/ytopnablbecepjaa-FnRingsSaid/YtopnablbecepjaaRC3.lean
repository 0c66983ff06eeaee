/- The walks, printed by program: whenever the model gives r, the call returns r. Part 3. -/
import Derived.Test.YtopnablbecepjaaRM
import Derived.Test.YtopnablbecepjaaProg
import Derived.Test.YtopnablbecepjaaRC2
set_option linter.unusedVariables false
set_option maxRecDepth 100000
set_option maxHeartbeats 4000000
namespace Go.Proofs.Ytopnablbecepjaa
open Go.Gx
theorem c_i_PutWords (w : World) (x4440 : Ring) (p4442 : Option Addr) (c4443 : Nat) (h4444 : rdS encI w x4440.Items p4442 c4443) (x4445 : List Int) (p4447 : Option Addr) (c4448 : Nat) (h4449 : rdS encI w x4445 p4447 c4448) {r : Ring × Int × Bool} (hm : M.i_PutWords x4440 x4445 = some r) :
    Calls Try.prog 40 #[.agg #[.slice p4442 x4440.Items.length c4443, .int .i64 x4440.Head, .int .i64 x4440.Tail], .slice p4447 x4445.length c4448] w fun e w' => ∃ (p4451 : Option Addr) (c4452 : Nat) (sg4453 : Seg), e = .returned (.tuple #[.agg #[.slice p4451 r.1.Items.length c4452, .int .i64 r.1.Head, .int .i64 r.1.Tail], .int .i64 r.2.1, .bool r.2.2]) ∧ ownS encI r.1.Items p4451 c4452 sg4453 ∧ Mem [] w w' [sg4453] := by
  unfold M.i_PutWords at hm
  refine C_enter Try.func40 rfl (by kernel_rfl) ?_
  have M0 := Mem.refl [] w
  refine G_seq ?_
  refine G_region ?_
  refine W_new (fun b => .pointer (some ⟨b, 0, none⟩)) (.cells ⟨[.slice p4442 x4440.Items.length c4443, .int .i64 x4440.Head, .int .i64 x4440.Tail]⟩ 27 (0, 0)) M0 rfl (by kernel_rfl) (by kernel_rfl) ?_
  intro b4455 w4456 M4457
  refine W_new (fun b => .pointer (some ⟨b, 0, none⟩)) (.cells ⟨[.slice none 0 0, .int .i64 0, .int .i64 0]⟩ 27 (0, 0)) M4457 rfl (by kernel_rfl) (by kernel_rfl) ?_
  intro b4460 w4461 M4462
  refine W_run 2 [(1, .slice p4447 x4445.length c4448), (2, .pointer (some ⟨b4455, 0, none⟩)), (4, .pointer (some ⟨b4460, 0, none⟩))] w4461 (by kernel_rfl) ?_
  refine W_nil ?_
  refine N_then ?_
  refine G_seq ?_
  refine G_seq ?_
  obtain ⟨o4527, ho4528, hm4529⟩ := gx_bind hm
  refine G_meet (fun a w' => Mem [] w w' [[(b4455, .cells ⟨[.slice p4442 x4440.Items.length c4443, .int .i64 x4440.Head, .int .i64 x4440.Tail]⟩ 27 (0, 0))], [(b4460, .cells ⟨[.slice none 0 0, .int .i64 0, .int .i64 0]⟩ 27 (0, 0))]] ∧ Sat Try.f40.ntmps [(1, .slice p4447 x4445.length c4448), (2, .pointer (some ⟨b4455, 0, none⟩)), (4, .pointer (some ⟨b4460, 0, none⟩)), (14, .bool o4527)] a) ?_ ?_
  · have hm := ho4528
    refine G_region ?_
    refine W_val (.agg #[.slice p4442 x4440.Items.length c4443, .int .i64 x4440.Head, .int .i64 x4440.Tail]) w4461 (by kernel_rfl) (E_load (e := 27) (fr := (0, 0)) _ _ true 3 b4455 0 [.slice p4442 x4440.Items.length c4443, .int .i64 x4440.Head, .int .i64 x4440.Tail] (.agg #[.slice p4442 x4440.Items.length c4443, .int .i64 x4440.Head, .int .i64 x4440.Tail]) rfl (by kernel_rfl) (by kernel_rfl) (by kernel_rfl) (M4462.blk 0 (b := b4455) (o := .cells ⟨[.slice p4442 x4440.Items.length c4443, .int .i64 x4440.Head, .int .i64 x4440.Tail]⟩ 27 (0, 0)) (by kernel_rfl))) ?_
    obtain ⟨r4530, hr4530, hm⟩ := gx_bind hm
    refine W_call 24 #[.agg #[.slice p4442 x4440.Items.length c4443, .int .i64 x4440.Head, .int .i64 x4440.Tail]] (by kernel_rfl) (by kernel_rfl) ?_
    refine (c_i_IsRing w4461 x4440 p4442 c4443 (h4444.mem0 M4462) hr4530).mono ?_
    rintro e_ w4531 ⟨rfl, K4532⟩
    have M4533 := M4462.call0 K4532
    refine ⟨_, rfl, ?_⟩
    refine W_run 2 [(1, .slice p4447 x4445.length c4448), (2, .pointer (some ⟨b4455, 0, none⟩)), (4, .pointer (some ⟨b4460, 0, none⟩)), (11, .bool (!r4530))] w4531 (by kernel_rfl) ?_
    rcases gx_bif hm with ⟨hc4534, hm⟩ | ⟨hc4534, hm⟩
    · refine W_known 11 true (by kernel_rfl) hc4534 ?_
      refine W_run 3 [(1, .slice p4447 x4445.length c4448), (2, .pointer (some ⟨b4455, 0, none⟩)), (4, .pointer (some ⟨b4460, 0, none⟩)), (14, .bool true)] w4531 (by kernel_rfl) ?_
      refine W_nil ?_
      obtain rfl := Option.some.inj hm
      exact N_meet fun a ha => ⟨M4533.pick [0, 1] (by kernel_rfl), ha.sub (by kernel_rfl)⟩
    · refine W_known 11 false (by kernel_rfl) hc4534 ?_
      refine W_run 1 [(1, .slice p4447 x4445.length c4448), (2, .pointer (some ⟨b4455, 0, none⟩)), (4, .pointer (some ⟨b4460, 0, none⟩)), (11, .bool false), (12, .slice p4447 x4445.length c4448)] w4531 (by kernel_rfl) ?_
      obtain ⟨r4535, hr4535, hm⟩ := gx_bind hm
      refine W_call 68 #[.slice p4447 x4445.length c4448, .func (.func 69) #[] #[]] (by kernel_rfl) (by kernel_rfl) ?_
      refine (c_slices_ContainsFunc_68__i_PutWords_1 w4531 x4445 p4447 c4448 (h4449.mem0 M4533) hr4535).mono ?_
      rintro e_ w4536 ⟨rfl, K4537⟩
      have M4538 := M4533.call0 K4537
      refine ⟨_, rfl, ?_⟩
      refine W_run 1 [(1, .slice p4447 x4445.length c4448), (2, .pointer (some ⟨b4455, 0, none⟩)), (4, .pointer (some ⟨b4460, 0, none⟩)), (14, .bool r4535)] w4536 (by kernel_rfl) ?_
      refine W_nil ?_
      obtain rfl := Option.some.inj hm
      exact N_meet fun a ha => ⟨M4538.pick [0, 1] (by kernel_rfl), ha.sub (by kernel_rfl)⟩
  · intro a4541 w4539 ⟨M4540, hS4542⟩
    refine N_use hS4542 ?_
    have hm := hm4529
    refine N_then ?_
    rcases gx_bif hm with ⟨hc4543, hm⟩ | ⟨hc4543, hm⟩
    · refine G_cond_t (b := o4527) hc4543 (by kernel_rfl) ?_
      refine G_seq ?_
      refine G_region ?_
      refine W_run 1 [(4, .pointer (some ⟨b4460, 0, none⟩)), (15, .agg #[.slice none 0 0, .int .i64 0, .int .i64 0])] w4539 (by kernel_rfl) ?_
      refine W_store _ _ _ true 3 b4460 0 [.slice none 0 0, .int .i64 0, .int .i64 0] 27 (.agg #[.slice none 0 0, .int .i64 0, .int .i64 0]) 1 [.slice none 0 0, .int .i64 0, .int .i64 0] M4540 (by kernel_rfl) rfl (by kernel_rfl) (by kernel_rfl) (by kernel_rfl) (by kernel_rfl) (by kernel_rfl) (by kernel_rfl) (by kernel_rfl) (by kernel_rfl) ?_
      intro w4545 M4546
      refine W_run 2 [(4, .pointer (some ⟨b4460, 0, none⟩)), (5, .int .i64 0), (6, .bool false)] w4545 (by kernel_rfl) ?_
      refine W_nil ?_
      refine N_then ?_
      refine G_ret ?_
      refine N_then_ret ?_
      obtain rfl := Option.some.inj hm
      refine N_ret [.agg #[.slice none 0 0, .int .i64 0, .int .i64 0], .int .i64 0, .bool false] (RVs_cons (RV_cell (g := true) (k := 3) (b := b4460) (off := 0) (cs := [.slice none 0 0, .int .i64 0, .int .i64 0]) (e := 27) (fr := (0, 0)) (v := .agg #[.slice none 0 0, .int .i64 0, .int .i64 0]) (M4546.blk 1 (b := b4460) (o := .cells ⟨[.slice none 0 0, .int .i64 0, .int .i64 0]⟩ 27 (0, 0)) (by kernel_rfl)) (by kernel_rfl) (by kernel_rfl) (by kernel_rfl)) (RVs_cons (RV_tmp (by kernel_rfl)) (RVs_cons (RV_tmp (by kernel_rfl)) RVs_nil))) ?_
      exact ⟨none, 0, [], rfl, ownS_nil, M4546.pick [100000] (by kernel_rfl)⟩
    · refine G_cond_f (b := o4527) hc4543 (by kernel_rfl) ?_
      refine G_skip ?_
      refine N_then ?_
      refine G_seq ?_
      refine G_quiet (by kernel_rfl) (by kernel_rfl) M4540 ?_
      refine Z_runs [.slice p4447 x4445.length c4448, .int .i64 (x4445.length : Int), .pointer (some ⟨b4455, 0, none⟩)] [(1, .slice p4447 x4445.length c4448), (2, .pointer (some ⟨b4455, 0, none⟩)), (4, .pointer (some ⟨b4460, 0, none⟩)), (17, .int .i64 (x4445.length : Int)), (18, .pointer (some ⟨b4455, 0, none⟩))] (fun w_ => by kernel_rfl) (by kernel_rfl) ?_
      refine Z_val (.slice p4442 x4440.Items.length c4443) (by kernel_rfl) (fun w_ M_ => (E_load (e := 27) (fr := (0, 0)) _ _ false 1 b4455 0 [.slice p4442 x4440.Items.length c4443, .int .i64 x4440.Head, .int .i64 x4440.Tail] (.slice p4442 x4440.Items.length c4443) rfl (by kernel_rfl) (by kernel_rfl) (by kernel_rfl) (M_.blk 0 (b := b4455) (o := .cells ⟨[.slice p4442 x4440.Items.length c4443, .int .i64 x4440.Head, .int .i64 x4440.Tail]⟩ 27 (0, 0)) (by kernel_rfl)))) ?_
      refine Z_runs [.int .i64 (x4440.Items.length : Int)] [(1, .slice p4447 x4445.length c4448), (2, .pointer (some ⟨b4455, 0, none⟩)), (4, .pointer (some ⟨b4460, 0, none⟩)), (17, .int .i64 (x4445.length : Int)), (20, .int .i64 (x4440.Items.length : Int))] (fun w_ => by kernel_rfl) (by kernel_rfl) ?_
      refine Z_val (.agg #[.slice p4442 x4440.Items.length c4443, .int .i64 x4440.Head, .int .i64 x4440.Tail]) (by kernel_rfl) (fun w_ M_ => (E_load (e := 27) (fr := (0, 0)) _ _ true 3 b4455 0 [.slice p4442 x4440.Items.length c4443, .int .i64 x4440.Head, .int .i64 x4440.Tail] (.agg #[.slice p4442 x4440.Items.length c4443, .int .i64 x4440.Head, .int .i64 x4440.Tail]) rfl (by kernel_rfl) (by kernel_rfl) (by kernel_rfl) (M_.blk 0 (b := b4455) (o := .cells ⟨[.slice p4442 x4440.Items.length c4443, .int .i64 x4440.Head, .int .i64 x4440.Tail]⟩ 27 (0, 0)) (by kernel_rfl)))) ?_
      obtain ⟨r4547, hr4547, hm⟩ := gx_bind hm
      refine Z_call 59 #[.agg #[.slice p4442 x4440.Items.length c4443, .int .i64 x4440.Head, .int .i64 x4440.Tail]] (.int .i64 r4547) (by kernel_rfl) (fun w_ => by kernel_rfl) (fun w_ M_ => (c_i_Ring_count w_ x4440 p4442 c4443 (h4444.mem0 M_) hr4547).mono fun e w2_ h_ => ⟨h_.1, M_.call0 h_.2⟩) ?_
      refine Z_runs [.int .i64 (w64 ((x4440.Items.length : Int) - r4547)), .int .i64 (gxMin (x4445.length : Int) (w64 ((x4440.Items.length : Int) - r4547))), .int .i64 (gxMin (x4445.length : Int) (w64 ((x4440.Items.length : Int) - r4547)))] [(1, .slice p4447 x4445.length c4448), (2, .pointer (some ⟨b4455, 0, none⟩)), (4, .pointer (some ⟨b4460, 0, none⟩)), (7, .int .i64 (gxMin (x4445.length : Int) (w64 ((x4440.Items.length : Int) - r4547))))] (fun w_ => by kernel_rfl) (by kernel_rfl) ?_
      refine Z_end fun w4551 M4552 => ?_
      refine N_then ?_
      refine G_seq ?_
      obtain ⟨r4555, hr4555, hm⟩ := gx_bind hm
      obtain ⟨ys4561, hys4561, hm⟩ := gx_bind hm
      obtain ⟨ap4563, hap4563, hm⟩ := gx_bind hm
      obtain ⟨r4569, hr4569, hm⟩ := gx_bind hm
      have M4575 : Mem [] w w4551 ([[(b4455, .cells ⟨[.slice p4442 x4440.Items.length c4443, .int .i64 x4440.Head, .int .i64 x4440.Tail]⟩ 27 (0, 0))]] ++ (List.range 14).map (fun i => ([[], [], [], [], [], [], [], [], [], [], [], [], [], [(b4460, .cells ⟨[.slice none 0 0, .int .i64 0, .int .i64 0]⟩ 27 (0, 0))]] : List Seg).getD i [])) := M4552.pick [0, 300000, 300001, 300002, 300003, 300004, 300005, 300006, 300007, 300008, 300009, 300010, 300011, 300012, 1] (by kernel_rfl)
      refine G_sub [(1, .slice p4447 x4445.length c4448), (2, .pointer (some ⟨b4455, 0, none⟩)), (4, .pointer (some ⟨b4460, 0, none⟩)), (7, .int .i64 (gxMin (x4445.length : Int) (w64 ((x4440.Items.length : Int) - r4547))))] (by kernel_rfl) ?_
      refine G_dagL 14 [[], [0], [1], [], [3], [], [5], [], [], [7, 8], [6, 9], [2, 4, 10], [], []] [[], [], [], [], [], [], [], [], [], [], [6], [], [], []] [[], [], [], [], [], [], [], [], [], [], [], [10], [], []] [[], [], [], [], [], [], [], [], [], [], [], [], [], [11]] [[], [], [], [], [], [], [], [], [], [], [], [], [], [11]] [[], [], [], [], [], [], [], [], [], [], [], [], [], []] (fun i => ([[], [], [], [], [], [], [], [], [], [], [], [], [], [(b4460, .cells ⟨[.slice none 0 0, .int .i64 0, .int .i64 0]⟩ 27 (0, 0))]] : List Seg).getD i []) (fun i => ([fun f v s => v = (.pointer (some ⟨b4455, 0, none⟩) : Value) ∧ s = [], fun f v s => v = (.slice p4442 x4440.Items.length c4443 : Value) ∧ s = [], fun f v s => v = (.int .i64 (x4440.Items.length : Int) : Value) ∧ s = [], fun f v s => v = (.pointer (some ⟨b4455, 1, none⟩) : Value) ∧ s = [], fun f v s => v = (.int .i64 x4440.Head : Value) ∧ s = [], fun f v s => v = (.agg #[.slice p4442 x4440.Items.length c4443, .int .i64 x4440.Head, .int .i64 x4440.Tail] : Value) ∧ s = [], fun f v s => ∃ (p4557 : Option Addr) (c4558 : Nat), v = (.slice p4557 r4555.length c4558 : Value) ∧ ownS encI r4555 p4557 c4558 s, fun f v s => v = (.slice p4447 x4445.length c4448 : Value) ∧ s = [], fun f v s => v = (.int .i64 (gxMin (x4445.length : Int) (w64 ((x4440.Items.length : Int) - r4547))) : Value) ∧ s = [], fun f v s => v = (.slice (subP p4447 (0 : Int).toNat c4448 1) ys4561.length (c4448 - (0 : Int).toNat) : Value) ∧ s = [], fun f v s => ∃ (p4565 : Option Addr) (c4566 : Nat), v = (.slice p4565 ap4563.length c4566 : Value) ∧ ownS encI ap4563 p4565 c4566 s, fun f v s => ∃ (p4571 : Option Addr) (c4572 : Nat), v = (.agg #[.slice p4571 r4569.Items.length c4572, .int .i64 r4569.Head, .int .i64 r4569.Tail] : Value) ∧ ownS encI r4569.Items p4571 c4572 s, fun f v s => v = (.int .i64 (gxMin (x4445.length : Int) (w64 ((x4440.Items.length : Int) - r4547))) : Value) ∧ s = [], fun f v s => v = undef ∧ s = [(b4460, .cells ⟨[(atPath (f 11) [0]), .int .i64 r4569.Head, .int .i64 r4569.Tail]⟩ 27 (0, 0))]] : List ((Nat → Value) → Value → Seg → Prop)).getD i (fun _ _ _ => False)) (fun j f v => ∃ s, (fun i => ([fun f v s => v = (.pointer (some ⟨b4455, 0, none⟩) : Value) ∧ s = [], fun f v s => v = (.slice p4442 x4440.Items.length c4443 : Value) ∧ s = [], fun f v s => v = (.int .i64 (x4440.Items.length : Int) : Value) ∧ s = [], fun f v s => v = (.pointer (some ⟨b4455, 1, none⟩) : Value) ∧ s = [], fun f v s => v = (.int .i64 x4440.Head : Value) ∧ s = [], fun f v s => v = (.agg #[.slice p4442 x4440.Items.length c4443, .int .i64 x4440.Head, .int .i64 x4440.Tail] : Value) ∧ s = [], fun f v s => ∃ (p4557 : Option Addr) (c4558 : Nat), v = (.slice p4557 r4555.length c4558 : Value) ∧ ownS encI r4555 p4557 c4558 s, fun f v s => v = (.slice p4447 x4445.length c4448 : Value) ∧ s = [], fun f v s => v = (.int .i64 (gxMin (x4445.length : Int) (w64 ((x4440.Items.length : Int) - r4547))) : Value) ∧ s = [], fun f v s => v = (.slice (subP p4447 (0 : Int).toNat c4448 1) ys4561.length (c4448 - (0 : Int).toNat) : Value) ∧ s = [], fun f v s => ∃ (p4565 : Option Addr) (c4566 : Nat), v = (.slice p4565 ap4563.length c4566 : Value) ∧ ownS encI ap4563 p4565 c4566 s, fun f v s => ∃ (p4571 : Option Addr) (c4572 : Nat), v = (.agg #[.slice p4571 r4569.Items.length c4572, .int .i64 r4569.Head, .int .i64 r4569.Tail] : Value) ∧ ownS encI r4569.Items p4571 c4572 s, fun f v s => v = (.int .i64 (gxMin (x4445.length : Int) (w64 ((x4440.Items.length : Int) - r4547))) : Value) ∧ s = [], fun f v s => v = undef ∧ s = [(b4460, .cells ⟨[(atPath (f 11) [0]), .int .i64 r4569.Head, .int .i64 r4569.Tail]⟩ 27 (0, 0))]] : List ((Nat → Value) → Value → Seg → Prop)).getD i (fun _ _ _ => False)) j f v s) [] [10, 11, 12, 13] [10, 11, 13] (fun _ _ _ s h => ⟨s, h⟩) (by kernel_rfl) (by kernel_rfl) M4575 (by kernel_rfl) (by kernel_rfl) (by kernel_rfl) (by kernel_rfl) (allOb_cons ?_ (allOb_cons ?_ (allOb_cons ?_ (allOb_cons ?_ (allOb_cons ?_ (allOb_cons ?_ (allOb_cons ?_ (allOb_cons ?_ (allOb_cons ?_ (allOb_cons ?_ (allOb_cons ?_ (allOb_cons ?_ (allOb_cons ?_ (allOb_cons ?_ allOb_nil)))))))))))))) ?_
      · intro g4553 f4554
        intro R w4576 M4577
        refine W_run 1 [(25, .pointer (some ⟨b4455, 0, none⟩))] w4576 (by kernel_rfl) ?_
        exact W_nil (ob_end (.pointer (some ⟨b4455, 0, none⟩)) [] rfl (by kernel_rfl) ⟨by kernel_rfl, rfl⟩ M4577)
      · intro g4553 f4554
        intro v0_ hb0_
        obtain ⟨rfl, _⟩ := hb0_
        intro R w4580 M4581
        refine W_val (.slice p4442 x4440.Items.length c4443) w4580 (by kernel_rfl) (E_load (e := 27) (fr := (0, 0)) _ _ false 1 b4455 0 [.slice p4442 x4440.Items.length c4443, .int .i64 x4440.Head, .int .i64 x4440.Tail] (.slice p4442 x4440.Items.length c4443) rfl (by kernel_rfl) (by kernel_rfl) (by kernel_rfl) (M4581.blk 0 (b := b4455) (o := .cells ⟨[.slice p4442 x4440.Items.length c4443, .int .i64 x4440.Head, .int .i64 x4440.Tail]⟩ 27 (0, 0)) (by kernel_rfl))) ?_
        exact W_nil (ob_end (.slice p4442 x4440.Items.length c4443) [] rfl (by kernel_rfl) ⟨by kernel_rfl, rfl⟩ M4581)
      · intro g4553 f4554
        intro v1_ hb1_
        obtain ⟨rfl, _⟩ := hb1_
        intro R w4584 M4585
        refine W_run 1 [(27, .int .i64 (x4440.Items.length : Int))] w4584 (by kernel_rfl) ?_
        exact W_nil (ob_end (.int .i64 (x4440.Items.length : Int)) [] rfl (by kernel_rfl) ⟨by kernel_rfl, rfl⟩ M4585)
      · intro g4553 f4554
        intro R w4588 M4589
        refine W_run 1 [(28, .pointer (some ⟨b4455, 1, none⟩))] w4588 (by kernel_rfl) ?_
        exact W_nil (ob_end (.pointer (some ⟨b4455, 1, none⟩)) [] rfl (by kernel_rfl) ⟨by kernel_rfl, rfl⟩ M4589)
      · intro g4553 f4554
        intro v3_ hb3_
        obtain ⟨rfl, _⟩ := hb3_
        intro R w4592 M4593
        refine W_val (.int .i64 x4440.Head) w4592 (by kernel_rfl) (E_load (e := 27) (fr := (0, 0)) _ _ false 1 b4455 1 [.slice p4442 x4440.Items.length c4443, .int .i64 x4440.Head, .int .i64 x4440.Tail] (.int .i64 x4440.Head) rfl (by kernel_rfl) (by kernel_rfl) (by kernel_rfl) (M4593.blk 0 (b := b4455) (o := .cells ⟨[.slice p4442 x4440.Items.length c4443, .int .i64 x4440.Head, .int .i64 x4440.Tail]⟩ 27 (0, 0)) (by kernel_rfl))) ?_
        exact W_nil (ob_end (.int .i64 x4440.Head) [] rfl (by kernel_rfl) ⟨by kernel_rfl, rfl⟩ M4593)
      · intro g4553 f4554
        intro R w4596 M4597
        refine W_val (.agg #[.slice p4442 x4440.Items.length c4443, .int .i64 x4440.Head, .int .i64 x4440.Tail]) w4596 (by kernel_rfl) (E_load (e := 27) (fr := (0, 0)) _ _ true 3 b4455 0 [.slice p4442 x4440.Items.length c4443, .int .i64 x4440.Head, .int .i64 x4440.Tail] (.agg #[.slice p4442 x4440.Items.length c4443, .int .i64 x4440.Head, .int .i64 x4440.Tail]) rfl (by kernel_rfl) (by kernel_rfl) (by kernel_rfl) (M4597.blk 0 (b := b4455) (o := .cells ⟨[.slice p4442 x4440.Items.length c4443, .int .i64 x4440.Head, .int .i64 x4440.Tail]⟩ 27 (0, 0)) (by kernel_rfl))) ?_
        exact W_nil (ob_end (.agg #[.slice p4442 x4440.Items.length c4443, .int .i64 x4440.Head, .int .i64 x4440.Tail]) [] rfl (by kernel_rfl) ⟨by kernel_rfl, rfl⟩ M4597)
      · intro g4553 f4554
        intro v5_ hb5_
        obtain ⟨rfl, _⟩ := hb5_
        intro R w4600 M4601
        refine W_call 61 #[.agg #[.slice p4442 x4440.Items.length c4443, .int .i64 x4440.Head, .int .i64 x4440.Tail]] (by kernel_rfl) (by kernel_rfl) ?_
        refine (c_i_ringWords w4600 x4440 p4442 c4443 (h4444.mem0 M4601) hr4555).mono ?_
        rintro e_ w4602 ⟨p4557, c4558, sg4559, rfl, ho4560, K4604⟩
        refine ⟨_, rfl, ?_⟩
        exact W_nil (ob_end (.slice p4557 r4555.length c4558) sg4559 rfl (by kernel_rfl) ⟨p4557, c4558, rfl, ho4560⟩ (Mem.callMid M4601 K4604))
      · intro g4553 f4554
        intro R w4605 M4606
        refine W_run 1 [(32, .slice p4447 x4445.length c4448)] w4605 (by kernel_rfl) ?_
        exact W_nil (ob_end (.slice p4447 x4445.length c4448) [] rfl (by kernel_rfl) ⟨by kernel_rfl, rfl⟩ M4606)
      · intro g4553 f4554
        intro R w4609 M4610
        refine W_run 1 [(33, .int .i64 (gxMin (x4445.length : Int) (w64 ((x4440.Items.length : Int) - r4547))))] w4609 (by kernel_rfl) ?_
        exact W_nil (ob_end (.int .i64 (gxMin (x4445.length : Int) (w64 ((x4440.Items.length : Int) - r4547)))) [] rfl (by kernel_rfl) ⟨by kernel_rfl, rfl⟩ M4610)
      · intro g4553 f4554
        intro v7_ hb7_
        obtain ⟨rfl, _⟩ := hb7_
        intro v8_ hb8_
        obtain ⟨rfl, _⟩ := hb8_
        intro R w4613 M4614
        refine W_val (.slice (subP p4447 (0 : Int).toNat c4448 1) ys4561.length (c4448 - (0 : Int).toNat)) w4613 (by kernel_rfl) (E_slice (E := encI) _ _ _ _ x4445.length 0 (gxMin (x4445.length : Int) (w64 ((x4440.Items.length : Int) - r4547))) rfl (by kernel_rfl) (Or.inl ⟨rfl, rfl⟩) (Or.inr ⟨_, rfl, by kernel_rfl⟩) (by kernel_rfl) (h4449.mem0 M4614) rfl hys4561) ?_
        exact W_nil (ob_end (.slice (subP p4447 (0 : Int).toNat c4448 1) ys4561.length (c4448 - (0 : Int).toNat)) [] rfl (by kernel_rfl) ⟨by kernel_rfl, rfl⟩ M4614)
      · intro g4553 f4554
        intro v6_ hb6_
        obtain ⟨p4557, c4558, rfl, ho4560⟩ := hb6_
        intro v9_ hb9_
        obtain ⟨rfl, _⟩ := hb9_
        intro R w4617 M4618
        refine W_append (E := encI) _ _ _ 8 [.int .i64 0] 2 (c4448 - (0 : Int).toNat) M4618 ho4560 (by kernel_rfl) (by kernel_rfl) (by kernel_rfl) rfl (by kernel_rfl) (by kernel_rfl) (by kernel_rfl) (by kernel_rfl) (by kernel_rfl) (by kernel_rfl) ((h4449.mem0 M4618).sliceM hys4561) hap4563 ?_
        intro p4565 c4566 sg4567 w4619 ho4568 M4620
        exact W_nil (ob_end (.slice p4565 ap4563.length c4566) sg4567 rfl (by kernel_rfl) ⟨p4565, c4566, rfl, ho4568⟩ (Mem.takeOver M4620))
      · intro g4553 f4554
        intro v2_ hb2_
        obtain ⟨rfl, _⟩ := hb2_
        intro v4_ hb4_
        obtain ⟨rfl, _⟩ := hb4_
        intro v10_ hb10_
        obtain ⟨p4565, c4566, rfl, ho4568⟩ := hb10_
        intro R w4621 M4622
        refine W_call 65 #[.int .i64 (x4440.Items.length : Int), .int .i64 x4440.Head, .slice p4565 ap4563.length c4566] (by kernel_rfl) (by kernel_rfl) ?_
        refine (c_i_ringOf w4621 (x4440.Items.length : Int) x4440.Head ap4563 p4565 c4566 (ho4568.rd M4622 2 (by kernel_rfl)) hr4569).mono ?_
        rintro e_ w4623 ⟨p4571, c4572, sg4573, rfl, ho4574, K4625⟩
        refine ⟨_, rfl, ?_⟩
        exact W_nil (ob_end (.agg #[.slice p4571 r4569.Items.length c4572, .int .i64 r4569.Head, .int .i64 r4569.Tail]) sg4573 rfl (by kernel_rfl) ⟨p4571, c4572, rfl, ho4574⟩ (Mem.callMid M4622 K4625))
      · intro g4553 f4554
        intro R w4626 M4627
        refine W_run 1 [(37, .int .i64 (gxMin (x4445.length : Int) (w64 ((x4440.Items.length : Int) - r4547))))] w4626 (by kernel_rfl) ?_
        exact W_nil (ob_end (.int .i64 (gxMin (x4445.length : Int) (w64 ((x4440.Items.length : Int) - r4547)))) [] rfl (by kernel_rfl) ⟨by kernel_rfl, rfl⟩ M4627)
      · intro g4553 f4554
        intro v11_ hb11_
        obtain ⟨_, p4571, c4572, rfl, _⟩ := hb11_
        intro R w4630 M4631
        refine W_store _ _ _ true 3 b4460 0 [.slice none 0 0, .int .i64 0, .int .i64 0] 27 (.agg #[.slice p4571 r4569.Items.length c4572, .int .i64 r4569.Head, .int .i64 r4569.Tail]) 1 [.slice p4571 r4569.Items.length c4572, .int .i64 r4569.Head, .int .i64 r4569.Tail] M4631 (by kernel_rfl) rfl (by kernel_rfl) (by kernel_rfl) (by kernel_rfl) (by kernel_rfl) (by kernel_rfl) (by kernel_rfl) (by kernel_rfl) (by kernel_rfl) ?_
        intro w4632 M4633
        exact W_nil (ob_none [(b4460, .cells ⟨[.slice p4571 r4569.Items.length c4572, .int .i64 r4569.Head, .int .i64 r4569.Tail]⟩ 27 (0, 0))] rfl ⟨rfl, by kernel_rfl⟩ M4633)
      · intro g4553 f4554
        intro v10_ hb10_
        obtain ⟨p4565, c4566, rfl, ho4568⟩ := hb10_
        intro v11_ hb11_
        obtain ⟨p4571, c4572, rfl, ho4574⟩ := hb11_
        intro v12_ hb12_
        obtain ⟨rfl, _⟩ := hb12_
        intro v13_ hb13_
        obtain ⟨rfl, hs13_⟩ := hb13_
        replace hs13_ := hs13_.trans (show _ = [(b4460, .cells ⟨[.slice p4571 r4569.Items.length c4572, .int .i64 r4569.Head, .int .i64 r4569.Tail]⟩ 27 (0, 0))] by kernel_rfl)
        intro w4634 M4635
        have M4636 : Mem [] w w4634 [[(b4455, .cells ⟨[.slice p4442 x4440.Items.length c4443, .int .i64 x4440.Head, .int .i64 x4440.Tail]⟩ 27 (0, 0))], (g4553 10), (g4553 11), (g4553 13)] := M4635
        rw [hs13_] at M4636
        refine W_run 2 [(4, .pointer (some ⟨b4460, 0, none⟩)), (5, .int .i64 (gxMin (x4445.length : Int) (w64 ((x4440.Items.length : Int) - r4547)))), (6, .bool true)] w4634 (by kernel_rfl) ?_
        refine W_nil ?_
        refine N_then ?_
        refine G_ret ?_
        obtain rfl := Option.some.inj hm
        refine N_ret [.agg #[.slice p4571 r4569.Items.length c4572, .int .i64 r4569.Head, .int .i64 r4569.Tail], .int .i64 (gxMin (x4445.length : Int) (w64 ((x4440.Items.length : Int) - r4547))), .bool true] (RVs_cons (RV_cell (g := true) (k := 3) (b := b4460) (off := 0) (cs := [.slice p4571 r4569.Items.length c4572, .int .i64 r4569.Head, .int .i64 r4569.Tail]) (e := 27) (fr := (0, 0)) (v := .agg #[.slice p4571 r4569.Items.length c4572, .int .i64 r4569.Head, .int .i64 r4569.Tail]) (M4636.blk 3 (b := b4460) (o := .cells ⟨[.slice p4571 r4569.Items.length c4572, .int .i64 r4569.Head, .int .i64 r4569.Tail]⟩ 27 (0, 0)) (by kernel_rfl)) (by kernel_rfl) (by kernel_rfl) (by kernel_rfl)) (RVs_cons (RV_tmp (by kernel_rfl)) (RVs_cons (RV_tmp (by kernel_rfl)) RVs_nil))) ?_
        exact ⟨p4571, c4572, (g4553 11), rfl, ho4574, M4636.pick [2] (by kernel_rfl)⟩
theorem c_i_PutWord (w : World) (x4414 : Ring) (p4416 : Option Addr) (c4417 : Nat) (h4418 : rdS encI w x4414.Items p4416 c4417) (x4419 : Int) {r : Ring × Bool} (hm : M.i_PutWord x4414 x4419 = some r) :
    Calls Try.prog 37 #[.agg #[.slice p4416 x4414.Items.length c4417, .int .i64 x4414.Head, .int .i64 x4414.Tail], .int .i64 x4419] w fun e w' => ∃ (p4421 : Option Addr) (c4422 : Nat) (sg4423 : Seg), e = .returned (.tuple #[.agg #[.slice p4421 r.1.Items.length c4422, .int .i64 r.1.Head, .int .i64 r.1.Tail], .bool r.2]) ∧ ownS encI r.1.Items p4421 c4422 sg4423 ∧ Mem [] w w' [sg4423] := by
  unfold M.i_PutWord at hm
  refine C_enter Try.func37 rfl (by kernel_rfl) ?_
  have M0 := Mem.refl [] w
  refine G_seq ?_
  refine G_region ?_
  refine W_new (fun b => .pointer (some ⟨b, 0, none⟩)) (.cells ⟨[.slice p4416 x4414.Items.length c4417, .int .i64 x4414.Head, .int .i64 x4414.Tail]⟩ 27 (0, 0)) M0 rfl (by kernel_rfl) (by kernel_rfl) ?_
  intro b4425 w4426 M4427
  refine W_new (fun b => .pointer (some ⟨b, 0, none⟩)) (.cells ⟨[.slice none 0 0, .int .i64 0, .int .i64 0]⟩ 27 (0, 0)) M4427 rfl (by kernel_rfl) (by kernel_rfl) ?_
  intro b4430 w4431 M4432
  refine W_run 1 [(1, .int .i64 x4419), (2, .pointer (some ⟨b4425, 0, none⟩)), (4, .pointer (some ⟨b4430, 0, none⟩))] w4431 (by kernel_rfl) ?_
  refine W_nil ?_
  refine N_then ?_
  refine G_seq ?_
  refine G_region ?_
  refine W_val (.agg #[.slice p4416 x4414.Items.length c4417, .int .i64 x4414.Head, .int .i64 x4414.Tail]) w4431 (by kernel_rfl) (E_load (e := 27) (fr := (0, 0)) _ _ true 3 b4425 0 [.slice p4416 x4414.Items.length c4417, .int .i64 x4414.Head, .int .i64 x4414.Tail] (.agg #[.slice p4416 x4414.Items.length c4417, .int .i64 x4414.Head, .int .i64 x4414.Tail]) rfl (by kernel_rfl) (by kernel_rfl) (by kernel_rfl) (M4432.blk 0 (b := b4425) (o := .cells ⟨[.slice p4416 x4414.Items.length c4417, .int .i64 x4414.Head, .int .i64 x4414.Tail]⟩ 27 (0, 0)) (by kernel_rfl))) ?_
  refine W_run 1 [(4, .pointer (some ⟨b4430, 0, none⟩)), (10, .agg #[.slice p4416 x4414.Items.length c4417, .int .i64 x4414.Head, .int .i64 x4414.Tail]), (11, .int .i64 x4419)] w4431 (by kernel_rfl) ?_
  refine W_lit (E := encI) [x4419] 1 [.int .i64 x4419] 3 M4432 (by kernel_rfl) (by kernel_rfl) (by kernel_rfl) (by kernel_rfl) (by kernel_rfl) ?_
  intro p4433 c4434 sg4435 w4436 ho4437 M4438
  obtain ⟨r4637, hr4637, hm⟩ := gx_bind hm
  refine W_call 40 #[.agg #[.slice p4416 x4414.Items.length c4417, .int .i64 x4414.Head, .int .i64 x4414.Tail], .slice p4433 [x4419].length c4434] (by kernel_rfl) (by kernel_rfl) ?_
  refine (c_i_PutWords w4436 x4414 p4416 c4417 (h4418.mem0 M4438) [x4419] p4433 c4434 (ho4437.rd M4438 2 (by kernel_rfl)) hr4637).mono ?_
  rintro e_ w4643 ⟨p4639, c4640, sg4641, rfl, ho4642, K4644⟩
  have M4645 := M4438.call K4644
  refine ⟨_, rfl, ?_⟩
  refine W_run 4 [(4, .pointer (some ⟨b4430, 0, none⟩)), (14, .agg #[.slice p4639 r4637.1.Items.length c4640, .int .i64 r4637.1.Head, .int .i64 r4637.1.Tail]), (15, .int .i64 r4637.2.1), (16, .bool r4637.2.2)] w4643 (by kernel_rfl) ?_
  refine W_new (fun b => .pointer (some ⟨b, 0, none⟩)) (.cells ⟨[.slice none 0 0, .int .i64 0, .int .i64 0]⟩ 27 (0, 0)) M4645 rfl (by kernel_rfl) (by kernel_rfl) ?_
  intro b4648 w4649 M4650
  refine W_store _ _ _ true 3 b4648 0 [.slice none 0 0, .int .i64 0, .int .i64 0] 27 (.agg #[.slice p4639 r4637.1.Items.length c4640, .int .i64 r4637.1.Head, .int .i64 r4637.1.Tail]) 4 [.slice p4639 r4637.1.Items.length c4640, .int .i64 r4637.1.Head, .int .i64 r4637.1.Tail] M4650 (by kernel_rfl) rfl (by kernel_rfl) (by kernel_rfl) (by kernel_rfl) (by kernel_rfl) (by kernel_rfl) (by kernel_rfl) (by kernel_rfl) (by kernel_rfl) ?_
  intro w4651 M4652
  refine W_run 2 [(4, .pointer (some ⟨b4430, 0, none⟩)), (6, .pointer (some ⟨b4648, 0, none⟩)), (7, .int .i64 r4637.2.1), (8, .bool r4637.2.2)] w4651 (by kernel_rfl) ?_
  refine W_nil ?_
  refine N_then ?_
  refine G_seq ?_
  refine G_seq ?_
  obtain ⟨o4654, ho4655, hm4656⟩ := gx_bind hm
  refine G_meet (fun a w' => Mem [] w w' [[(b4430, .cells ⟨[.slice none 0 0, .int .i64 0, .int .i64 0]⟩ 27 (0, 0))], sg4641, [(b4648, .cells ⟨[.slice p4639 r4637.1.Items.length c4640, .int .i64 r4637.1.Head, .int .i64 r4637.1.Tail]⟩ 27 (0, 0))]] ∧ Sat Try.f37.ntmps [(4, .pointer (some ⟨b4430, 0, none⟩)), (6, .pointer (some ⟨b4648, 0, none⟩)), (22, .bool o4654)] a) ?_ ?_
  · have hm := ho4655
    refine G_region ?_
    refine W_run 3 [(4, .pointer (some ⟨b4430, 0, none⟩)), (6, .pointer (some ⟨b4648, 0, none⟩)), (7, .int .i64 r4637.2.1), (19, .bool (!r4637.2.2))] w4651 (by kernel_rfl) ?_
    rcases gx_bif hm with ⟨hc4657, hm⟩ | ⟨hc4657, hm⟩
    · refine W_known 19 true (by kernel_rfl) hc4657 ?_
      refine W_run 3 [(4, .pointer (some ⟨b4430, 0, none⟩)), (6, .pointer (some ⟨b4648, 0, none⟩)), (22, .bool true)] w4651 (by kernel_rfl) ?_
      refine W_nil ?_
      obtain rfl := Option.some.inj hm
      exact N_meet fun a ha => ⟨M4652.pick [1, 3, 4] (by kernel_rfl), ha.sub (by kernel_rfl)⟩
    · refine W_known 19 false (by kernel_rfl) hc4657 ?_
      refine W_run 3 [(4, .pointer (some ⟨b4430, 0, none⟩)), (6, .pointer (some ⟨b4648, 0, none⟩)), (22, .bool (r4637.2.1 == 0))] w4651 (by kernel_rfl) ?_
      refine W_nil ?_
      obtain rfl := Option.some.inj hm
      exact N_meet fun a ha => ⟨M4652.pick [1, 3, 4] (by kernel_rfl), ha.sub (by kernel_rfl)⟩
  · intro a4660 w4658 ⟨M4659, hS4661⟩
    refine N_use hS4661 ?_
    have hm := hm4656
    refine N_then ?_
    rcases gx_bif hm with ⟨hc4662, hm⟩ | ⟨hc4662, hm⟩
    · refine G_cond_t (b := o4654) hc4662 (by kernel_rfl) ?_
      refine G_seq ?_
      refine G_region ?_
      refine W_run 1 [(4, .pointer (some ⟨b4430, 0, none⟩)), (23, .agg #[.slice none 0 0, .int .i64 0, .int .i64 0])] w4658 (by kernel_rfl) ?_
      refine W_store _ _ _ true 3 b4430 0 [.slice none 0 0, .int .i64 0, .int .i64 0] 27 (.agg #[.slice none 0 0, .int .i64 0, .int .i64 0]) 0 [.slice none 0 0, .int .i64 0, .int .i64 0] M4659 (by kernel_rfl) rfl (by kernel_rfl) (by kernel_rfl) (by kernel_rfl) (by kernel_rfl) (by kernel_rfl) (by kernel_rfl) (by kernel_rfl) (by kernel_rfl) ?_
      intro w4664 M4665
      refine W_run 1 [(4, .pointer (some ⟨b4430, 0, none⟩)), (5, .bool false)] w4664 (by kernel_rfl) ?_
      refine W_nil ?_
      refine N_then ?_
      refine G_ret ?_
      refine N_then_ret ?_
      obtain rfl := Option.some.inj hm
      refine N_ret [.agg #[.slice none 0 0, .int .i64 0, .int .i64 0], .bool false] (RVs_cons (RV_cell (g := true) (k := 3) (b := b4430) (off := 0) (cs := [.slice none 0 0, .int .i64 0, .int .i64 0]) (e := 27) (fr := (0, 0)) (v := .agg #[.slice none 0 0, .int .i64 0, .int .i64 0]) (M4665.blk 0 (b := b4430) (o := .cells ⟨[.slice none 0 0, .int .i64 0, .int .i64 0]⟩ 27 (0, 0)) (by kernel_rfl)) (by kernel_rfl) (by kernel_rfl) (by kernel_rfl)) (RVs_cons (RV_tmp (by kernel_rfl)) RVs_nil)) ?_
      exact ⟨none, 0, [], rfl, ownS_nil, M4665.pick [100000] (by kernel_rfl)⟩
    · refine G_cond_f (b := o4654) hc4662 (by kernel_rfl) ?_
      refine G_skip ?_
      refine N_then ?_
      refine G_seq ?_
      refine G_region ?_
      refine W_val (.agg #[.slice p4639 r4637.1.Items.length c4640, .int .i64 r4637.1.Head, .int .i64 r4637.1.Tail]) w4658 (by kernel_rfl) (E_load (e := 27) (fr := (0, 0)) _ _ true 3 b4648 0 [.slice p4639 r4637.1.Items.length c4640, .int .i64 r4637.1.Head, .int .i64 r4637.1.Tail] (.agg #[.slice p4639 r4637.1.Items.length c4640, .int .i64 r4637.1.Head, .int .i64 r4637.1.Tail]) rfl (by kernel_rfl) (by kernel_rfl) (by kernel_rfl) (M4659.blk 2 (b := b4648) (o := .cells ⟨[.slice p4639 r4637.1.Items.length c4640, .int .i64 r4637.1.Head, .int .i64 r4637.1.Tail]⟩ 27 (0, 0)) (by kernel_rfl))) ?_
      refine W_store _ _ _ true 3 b4430 0 [.slice none 0 0, .int .i64 0, .int .i64 0] 27 (.agg #[.slice p4639 r4637.1.Items.length c4640, .int .i64 r4637.1.Head, .int .i64 r4637.1.Tail]) 0 [.slice p4639 r4637.1.Items.length c4640, .int .i64 r4637.1.Head, .int .i64 r4637.1.Tail] M4659 (by kernel_rfl) rfl (by kernel_rfl) (by kernel_rfl) (by kernel_rfl) (by kernel_rfl) (by kernel_rfl) (by kernel_rfl) (by kernel_rfl) (by kernel_rfl) ?_
      intro w4666 M4667
      refine W_run 1 [(4, .pointer (some ⟨b4430, 0, none⟩)), (5, .bool true)] w4666 (by kernel_rfl) ?_
      refine W_nil ?_
      refine N_then ?_
      refine G_ret ?_
      obtain rfl := Option.some.inj hm
      refine N_ret [.agg #[.slice p4639 r4637.1.Items.length c4640, .int .i64 r4637.1.Head, .int .i64 r4637.1.Tail], .bool true] (RVs_cons (RV_cell (g := true) (k := 3) (b := b4430) (off := 0) (cs := [.slice p4639 r4637.1.Items.length c4640, .int .i64 r4637.1.Head, .int .i64 r4637.1.Tail]) (e := 27) (fr := (0, 0)) (v := .agg #[.slice p4639 r4637.1.Items.length c4640, .int .i64 r4637.1.Head, .int .i64 r4637.1.Tail]) (M4667.blk 0 (b := b4430) (o := .cells ⟨[.slice p4639 r4637.1.Items.length c4640, .int .i64 r4637.1.Head, .int .i64 r4637.1.Tail]⟩ 27 (0, 0)) (by kernel_rfl)) (by kernel_rfl) (by kernel_rfl) (by kernel_rfl)) (RVs_cons (RV_tmp (by kernel_rfl)) RVs_nil)) ?_
      exact ⟨p4639, c4640, sg4641, rfl, ho4642, M4667.pick [1] (by kernel_rfl)⟩
theorem c_s_PutWord (w : World) (x4684 : Ring) (p4686 : Option Addr) (c4687 : Nat) (h4688 : rdS encI w x4684.Items p4686 c4687) (x4689 : Int) {r : Ring × Bool} (hm : M.s_PutWord x4684 x4689 = some r) :
    Calls Try.prog 36 #[.agg #[.slice p4686 x4684.Items.length c4687, .int .i64 x4684.Head, .int .i64 x4684.Tail], .int .i64 x4689] w fun e w' => ∃ (p4691 : Option Addr) (c4692 : Nat) (sg4693 : Seg), e = .returned (.tuple #[.agg #[.slice p4691 r.1.Items.length c4692, .int .i64 r.1.Head, .int .i64 r.1.Tail], .bool r.2]) ∧ ownS encI r.1.Items p4691 c4692 sg4693 ∧ Mem [] w w' [sg4693] := by
  unfold M.s_PutWord at hm
  refine C_enter Try.func36 rfl (by kernel_rfl) ?_
  have M0 := Mem.refl [] w
  refine G_seq ?_
  refine G_region ?_
  refine W_new (fun b => .pointer (some ⟨b, 0, none⟩)) (.cells ⟨[.slice p4686 x4684.Items.length c4687, .int .i64 x4684.Head, .int .i64 x4684.Tail]⟩ 27 (0, 0)) M0 rfl (by kernel_rfl) (by kernel_rfl) ?_
  intro b4695 w4696 M4697
  refine W_new (fun b => .pointer (some ⟨b, 0, none⟩)) (.cells ⟨[.slice none 0 0, .int .i64 0, .int .i64 0]⟩ 27 (0, 0)) M4697 rfl (by kernel_rfl) (by kernel_rfl) ?_
  intro b4700 w4701 M4702
  refine W_run 1 [(1, .int .i64 x4689), (2, .pointer (some ⟨b4695, 0, none⟩)), (4, .pointer (some ⟨b4700, 0, none⟩))] w4701 (by kernel_rfl) ?_
  refine W_nil ?_
  refine N_then ?_
  refine G_seq ?_
  refine G_seq ?_
  obtain ⟨o4712, ho4713, hm4714⟩ := gx_bind hm
  refine G_meet (fun a w' => Mem [] w w' [[(b4695, .cells ⟨[.slice p4686 x4684.Items.length c4687, .int .i64 x4684.Head, .int .i64 x4684.Tail]⟩ 27 (0, 0))], [(b4700, .cells ⟨[.slice none 0 0, .int .i64 0, .int .i64 0]⟩ 27 (0, 0))]] ∧ Sat Try.f36.ntmps [(1, .int .i64 x4689), (2, .pointer (some ⟨b4695, 0, none⟩)), (4, .pointer (some ⟨b4700, 0, none⟩)), (15, .bool o4712)] a) ?_ ?_
  · have hm := ho4713
    refine G_region ?_
    refine W_val (.agg #[.slice p4686 x4684.Items.length c4687, .int .i64 x4684.Head, .int .i64 x4684.Tail]) w4701 (by kernel_rfl) (E_load (e := 27) (fr := (0, 0)) _ _ true 3 b4695 0 [.slice p4686 x4684.Items.length c4687, .int .i64 x4684.Head, .int .i64 x4684.Tail] (.agg #[.slice p4686 x4684.Items.length c4687, .int .i64 x4684.Head, .int .i64 x4684.Tail]) rfl (by kernel_rfl) (by kernel_rfl) (by kernel_rfl) (M4702.blk 0 (b := b4695) (o := .cells ⟨[.slice p4686 x4684.Items.length c4687, .int .i64 x4684.Head, .int .i64 x4684.Tail]⟩ 27 (0, 0)) (by kernel_rfl))) ?_
    obtain ⟨r4715, hr4715, hm⟩ := gx_bind hm
    refine W_call 58 #[.agg #[.slice p4686 x4684.Items.length c4687, .int .i64 x4684.Head, .int .i64 x4684.Tail]] (by kernel_rfl) (by kernel_rfl) ?_
    refine (c_s_l20Good w4701 x4684 p4686 c4687 (h4688.mem0 M4702) hr4715).mono ?_
    rintro e_ w4716 ⟨rfl, K4717⟩
    have M4718 := M4702.call0 K4717
    refine ⟨_, rfl, ?_⟩
    refine W_run 2 [(1, .int .i64 x4689), (2, .pointer (some ⟨b4695, 0, none⟩)), (4, .pointer (some ⟨b4700, 0, none⟩)), (11, .bool (!r4715))] w4716 (by kernel_rfl) ?_
    rcases gx_bif hm with ⟨hc4719, hm⟩ | ⟨hc4719, hm⟩
    · refine W_known 11 true (by kernel_rfl) hc4719 ?_
      refine W_run 4 [(1, .int .i64 x4689), (2, .pointer (some ⟨b4695, 0, none⟩)), (4, .pointer (some ⟨b4700, 0, none⟩)), (15, .bool true)] w4716 (by kernel_rfl) ?_
      refine W_nil ?_
      obtain rfl := Option.some.inj hm
      exact N_meet fun a ha => ⟨M4718.pick [0, 1] (by kernel_rfl), ha.sub (by kernel_rfl)⟩
    · refine W_known 11 false (by kernel_rfl) hc4719 ?_
      refine W_run 1 [(1, .int .i64 x4689), (2, .pointer (some ⟨b4695, 0, none⟩)), (4, .pointer (some ⟨b4700, 0, none⟩)), (11, .bool false), (12, .int .i64 x4689)] w4716 (by kernel_rfl) ?_
      obtain ⟨r4720, hr4720, hm⟩ := gx_bind hm
      refine W_call 52 #[.int .i64 x4689] (by kernel_rfl) (by kernel_rfl) ?_
      refine (c_s_l2Word16 w4716 x4689 hr4720).mono ?_
      rintro e_ w4721 ⟨rfl, K4722⟩
      have M4723 := M4718.call0 K4722
      refine ⟨_, rfl, ?_⟩
      refine W_run 2 [(1, .int .i64 x4689), (2, .pointer (some ⟨b4695, 0, none⟩)), (4, .pointer (some ⟨b4700, 0, none⟩)), (15, .bool (!r4720))] w4721 (by kernel_rfl) ?_
      refine W_nil ?_
      obtain rfl := Option.some.inj hm
      exact N_meet fun a ha => ⟨M4723.pick [0, 1] (by kernel_rfl), ha.sub (by kernel_rfl)⟩
  · intro a4726 w4724 ⟨M4725, hS4727⟩
    refine N_use hS4727 ?_
    have hm := hm4714
    refine N_then ?_
    rcases gx_bif hm with ⟨hc4728, hm⟩ | ⟨hc4728, hm⟩
    · refine G_cond_t (b := o4712) hc4728 (by kernel_rfl) ?_
      refine G_seq ?_
      refine G_region ?_
      refine W_run 1 [(4, .pointer (some ⟨b4700, 0, none⟩)), (16, .agg #[.slice none 0 0, .int .i64 0, .int .i64 0])] w4724 (by kernel_rfl) ?_
      refine W_store _ _ _ true 3 b4700 0 [.slice none 0 0, .int .i64 0, .int .i64 0] 27 (.agg #[.slice none 0 0, .int .i64 0, .int .i64 0]) 1 [.slice none 0 0, .int .i64 0, .int .i64 0] M4725 (by kernel_rfl) rfl (by kernel_rfl) (by kernel_rfl) (by kernel_rfl) (by kernel_rfl) (by kernel_rfl) (by kernel_rfl) (by kernel_rfl) (by kernel_rfl) ?_
      intro w4730 M4731
      refine W_run 1 [(4, .pointer (some ⟨b4700, 0, none⟩)), (5, .bool false)] w4730 (by kernel_rfl) ?_
      refine W_nil ?_
      refine N_then ?_
      refine G_ret ?_
      refine N_then_ret ?_
      obtain rfl := Option.some.inj hm
      refine N_ret [.agg #[.slice none 0 0, .int .i64 0, .int .i64 0], .bool false] (RVs_cons (RV_cell (g := true) (k := 3) (b := b4700) (off := 0) (cs := [.slice none 0 0, .int .i64 0, .int .i64 0]) (e := 27) (fr := (0, 0)) (v := .agg #[.slice none 0 0, .int .i64 0, .int .i64 0]) (M4731.blk 1 (b := b4700) (o := .cells ⟨[.slice none 0 0, .int .i64 0, .int .i64 0]⟩ 27 (0, 0)) (by kernel_rfl)) (by kernel_rfl) (by kernel_rfl) (by kernel_rfl)) (RVs_cons (RV_tmp (by kernel_rfl)) RVs_nil)) ?_
      exact ⟨none, 0, [], rfl, ownS_nil, M4731.pick [100000] (by kernel_rfl)⟩
    · refine G_cond_f (b := o4712) hc4728 (by kernel_rfl) ?_
      refine G_skip ?_
      refine N_then ?_
      refine G_seq ?_
      refine G_region ?_
      refine W_val (.agg #[.slice p4686 x4684.Items.length c4687, .int .i64 x4684.Head, .int .i64 x4684.Tail]) w4724 (by kernel_rfl) (E_load (e := 27) (fr := (0, 0)) _ _ true 3 b4695 0 [.slice p4686 x4684.Items.length c4687, .int .i64 x4684.Head, .int .i64 x4684.Tail] (.agg #[.slice p4686 x4684.Items.length c4687, .int .i64 x4684.Head, .int .i64 x4684.Tail]) rfl (by kernel_rfl) (by kernel_rfl) (by kernel_rfl) (M4725.blk 0 (b := b4695) (o := .cells ⟨[.slice p4686 x4684.Items.length c4687, .int .i64 x4684.Head, .int .i64 x4684.Tail]⟩ 27 (0, 0)) (by kernel_rfl))) ?_
      refine W_run 1 [(4, .pointer (some ⟨b4700, 0, none⟩)), (18, .agg #[.slice p4686 x4684.Items.length c4687, .int .i64 x4684.Head, .int .i64 x4684.Tail]), (19, .int .i64 x4689)] w4724 (by kernel_rfl) ?_
      obtain ⟨r4732, hr4732, hm⟩ := gx_bind hm
      refine W_call 67 #[.agg #[.slice p4686 x4684.Items.length c4687, .int .i64 x4684.Head, .int .i64 x4684.Tail], .int .i64 x4689] (by kernel_rfl) (by kernel_rfl) ?_
      refine (c_s_l20Put w4724 x4684 p4686 c4687 (h4688.mem0 M4725) x4689 hr4732).mono ?_
      rintro e_ w4738 ⟨p4734, c4735, sg4736, rfl, ho4737, K4739⟩
      have M4740 := M4725.call K4739
      refine ⟨_, rfl, ?_⟩
      refine W_run 3 [(4, .pointer (some ⟨b4700, 0, none⟩)), (21, .agg #[.slice p4734 r4732.1.Items.length c4735, .int .i64 r4732.1.Head, .int .i64 r4732.1.Tail]), (22, .bool r4732.2)] w4738 (by kernel_rfl) ?_
      refine W_new (fun b => .pointer (some ⟨b, 0, none⟩)) (.cells ⟨[.slice none 0 0, .int .i64 0, .int .i64 0]⟩ 27 (0, 0)) M4740 rfl (by kernel_rfl) (by kernel_rfl) ?_
      intro b4743 w4744 M4745
      refine W_store _ _ _ true 3 b4743 0 [.slice none 0 0, .int .i64 0, .int .i64 0] 27 (.agg #[.slice p4734 r4732.1.Items.length c4735, .int .i64 r4732.1.Head, .int .i64 r4732.1.Tail]) 3 [.slice p4734 r4732.1.Items.length c4735, .int .i64 r4732.1.Head, .int .i64 r4732.1.Tail] M4745 (by kernel_rfl) rfl (by kernel_rfl) (by kernel_rfl) (by kernel_rfl) (by kernel_rfl) (by kernel_rfl) (by kernel_rfl) (by kernel_rfl) (by kernel_rfl) ?_
      intro w4746 M4747
      refine W_run 1 [(4, .pointer (some ⟨b4700, 0, none⟩)), (6, .pointer (some ⟨b4743, 0, none⟩)), (7, .bool r4732.2)] w4746 (by kernel_rfl) ?_
      refine W_nil ?_
      refine N_then ?_
      refine G_seq ?_
      refine G_seq ?_
      refine G_region ?_
      refine W_run 2 [(4, .pointer (some ⟨b4700, 0, none⟩)), (6, .pointer (some ⟨b4743, 0, none⟩)), (24, .bool (!r4732.2))] w4746 (by kernel_rfl) ?_
      refine W_nil ?_
      refine N_then ?_
      rcases gx_bif hm with ⟨hc4748, hm⟩ | ⟨hc4748, hm⟩
      · refine G_cond_t (b := (!r4732.2)) hc4748 (by kernel_rfl) ?_
        refine G_seq ?_
        refine G_region ?_
        refine W_run 1 [(4, .pointer (some ⟨b4700, 0, none⟩)), (25, .agg #[.slice none 0 0, .int .i64 0, .int .i64 0])] w4746 (by kernel_rfl) ?_
        refine W_store _ _ _ true 3 b4700 0 [.slice none 0 0, .int .i64 0, .int .i64 0] 27 (.agg #[.slice none 0 0, .int .i64 0, .int .i64 0]) 1 [.slice none 0 0, .int .i64 0, .int .i64 0] M4747 (by kernel_rfl) rfl (by kernel_rfl) (by kernel_rfl) (by kernel_rfl) (by kernel_rfl) (by kernel_rfl) (by kernel_rfl) (by kernel_rfl) (by kernel_rfl) ?_
        intro w4750 M4751
        refine W_run 1 [(4, .pointer (some ⟨b4700, 0, none⟩)), (5, .bool false)] w4750 (by kernel_rfl) ?_
        refine W_nil ?_
        refine N_then ?_
        refine G_ret ?_
        refine N_then_ret ?_
        obtain rfl := Option.some.inj hm
        refine N_ret [.agg #[.slice none 0 0, .int .i64 0, .int .i64 0], .bool false] (RVs_cons (RV_cell (g := true) (k := 3) (b := b4700) (off := 0) (cs := [.slice none 0 0, .int .i64 0, .int .i64 0]) (e := 27) (fr := (0, 0)) (v := .agg #[.slice none 0 0, .int .i64 0, .int .i64 0]) (M4751.blk 1 (b := b4700) (o := .cells ⟨[.slice none 0 0, .int .i64 0, .int .i64 0]⟩ 27 (0, 0)) (by kernel_rfl)) (by kernel_rfl) (by kernel_rfl) (by kernel_rfl)) (RVs_cons (RV_tmp (by kernel_rfl)) RVs_nil)) ?_
        exact ⟨none, 0, [], rfl, ownS_nil, M4751.pick [100000] (by kernel_rfl)⟩
      · refine G_cond_f (b := (!r4732.2)) hc4748 (by kernel_rfl) ?_
        refine G_skip ?_
        refine N_then ?_
        refine G_seq ?_
        refine G_region ?_
        refine W_val (.agg #[.slice p4734 r4732.1.Items.length c4735, .int .i64 r4732.1.Head, .int .i64 r4732.1.Tail]) w4746 (by kernel_rfl) (E_load (e := 27) (fr := (0, 0)) _ _ true 3 b4743 0 [.slice p4734 r4732.1.Items.length c4735, .int .i64 r4732.1.Head, .int .i64 r4732.1.Tail] (.agg #[.slice p4734 r4732.1.Items.length c4735, .int .i64 r4732.1.Head, .int .i64 r4732.1.Tail]) rfl (by kernel_rfl) (by kernel_rfl) (by kernel_rfl) (M4747.blk 3 (b := b4743) (o := .cells ⟨[.slice p4734 r4732.1.Items.length c4735, .int .i64 r4732.1.Head, .int .i64 r4732.1.Tail]⟩ 27 (0, 0)) (by kernel_rfl))) ?_
        refine W_store _ _ _ true 3 b4700 0 [.slice none 0 0, .int .i64 0, .int .i64 0] 27 (.agg #[.slice p4734 r4732.1.Items.length c4735, .int .i64 r4732.1.Head, .int .i64 r4732.1.Tail]) 1 [.slice p4734 r4732.1.Items.length c4735, .int .i64 r4732.1.Head, .int .i64 r4732.1.Tail] M4747 (by kernel_rfl) rfl (by kernel_rfl) (by kernel_rfl) (by kernel_rfl) (by kernel_rfl) (by kernel_rfl) (by kernel_rfl) (by kernel_rfl) (by kernel_rfl) ?_
        intro w4752 M4753
        refine W_run 1 [(4, .pointer (some ⟨b4700, 0, none⟩)), (5, .bool true)] w4752 (by kernel_rfl) ?_
        refine W_nil ?_
        refine N_then ?_
        refine G_ret ?_
        obtain rfl := Option.some.inj hm
        refine N_ret [.agg #[.slice p4734 r4732.1.Items.length c4735, .int .i64 r4732.1.Head, .int .i64 r4732.1.Tail], .bool true] (RVs_cons (RV_cell (g := true) (k := 3) (b := b4700) (off := 0) (cs := [.slice p4734 r4732.1.Items.length c4735, .int .i64 r4732.1.Head, .int .i64 r4732.1.Tail]) (e := 27) (fr := (0, 0)) (v := .agg #[.slice p4734 r4732.1.Items.length c4735, .int .i64 r4732.1.Head, .int .i64 r4732.1.Tail]) (M4753.blk 1 (b := b4700) (o := .cells ⟨[.slice p4734 r4732.1.Items.length c4735, .int .i64 r4732.1.Head, .int .i64 r4732.1.Tail]⟩ 27 (0, 0)) (by kernel_rfl)) (by kernel_rfl) (by kernel_rfl) (by kernel_rfl)) (RVs_cons (RV_tmp (by kernel_rfl)) RVs_nil)) ?_
        exact ⟨p4734, c4735, sg4736, rfl, ho4737, M4753.pick [2] (by kernel_rfl)⟩
theorem c_s_IsRing (w : World) (x4784 : Ring) (p4786 : Option Addr) (c4787 : Nat) (h4788 : rdS encI w x4784.Items p4786 c4787) {r : Bool} (hm : M.s_IsRing x4784 = some r) :
    Calls Try.prog 22 #[.agg #[.slice p4786 x4784.Items.length c4787, .int .i64 x4784.Head, .int .i64 x4784.Tail]] w fun e w' => e = .returned (.bool r) ∧ Mem [] w w' [] := by
  unfold M.s_IsRing at hm
  refine C_enter Try.func22 rfl (by kernel_rfl) ?_
  have M0 := Mem.refl [] w
  refine G_seq ?_
  refine G_region ?_
  refine W_new (fun b => .pointer (some ⟨b, 0, none⟩)) (.cells ⟨[.slice p4786 x4784.Items.length c4787, .int .i64 x4784.Head, .int .i64 x4784.Tail]⟩ 27 (0, 0)) M0 rfl (by kernel_rfl) (by kernel_rfl) ?_
  intro b4790 w4791 M4792
  refine W_run 1 [(1, .pointer (some ⟨b4790, 0, none⟩))] w4791 (by kernel_rfl) ?_
  refine W_nil ?_
  refine N_then ?_
  refine G_seq ?_
  refine G_region ?_
  refine W_val (.agg #[.slice p4786 x4784.Items.length c4787, .int .i64 x4784.Head, .int .i64 x4784.Tail]) w4791 (by kernel_rfl) (E_load (e := 27) (fr := (0, 0)) _ _ true 3 b4790 0 [.slice p4786 x4784.Items.length c4787, .int .i64 x4784.Head, .int .i64 x4784.Tail] (.agg #[.slice p4786 x4784.Items.length c4787, .int .i64 x4784.Head, .int .i64 x4784.Tail]) rfl (by kernel_rfl) (by kernel_rfl) (by kernel_rfl) (M4792.blk 0 (b := b4790) (o := .cells ⟨[.slice p4786 x4784.Items.length c4787, .int .i64 x4784.Head, .int .i64 x4784.Tail]⟩ 27 (0, 0)) (by kernel_rfl))) ?_
  obtain ⟨r4793, hr4793, hm⟩ := gx_bind hm
  refine W_call 58 #[.agg #[.slice p4786 x4784.Items.length c4787, .int .i64 x4784.Head, .int .i64 x4784.Tail]] (by kernel_rfl) (by kernel_rfl) ?_
  refine (c_s_l20Good w4791 x4784 p4786 c4787 (h4788.mem0 M4792) hr4793).mono ?_
  rintro e_ w4794 ⟨rfl, K4795⟩
  have M4796 := M4792.call0 K4795
  refine ⟨_, rfl, ?_⟩
  refine W_run 1 [(2, .bool r4793)] w4794 (by kernel_rfl) ?_
  refine W_nil ?_
  refine N_then ?_
  refine G_ret ?_
  obtain rfl := Option.some.inj hm
  refine N_ret [.bool r4793] (RVs_cons (RV_tmp (by kernel_rfl)) RVs_nil) ?_
  exact ⟨rfl, M4796.pick [] (by kernel_rfl)⟩
theorem c_s_DrawTakeWord (w : World) (x5057 : List Int) (p5059 : Option Addr) (c5060 : Nat) (h5061 : rdS encU8 w x5057 p5059 c5060) {r : Ring} (hm : M.s_DrawTakeWord x5057 = some r) :
    Calls Try.prog 49 #[.slice p5059 x5057.length c5060] w fun e w' => ∃ (p5063 : Option Addr) (c5064 : Nat) (sg5065 : Seg), e = .returned (.agg #[.slice p5063 r.Items.length c5064, .int .i64 r.Head, .int .i64 r.Tail]) ∧ ownS encI r.Items p5063 c5064 sg5065 ∧ Mem [] w w' [sg5065] := by
  unfold M.s_DrawTakeWord at hm
  refine C_enter Try.func49 rfl (by kernel_rfl) ?_
  have M0 := Mem.refl [] w
  refine G_seq ?_
  refine G_region ?_
  refine W_new (fun b => .pointer (some ⟨b, 0, none⟩)) (.cells ⟨[.slice none 0 0, .int .i64 0, .int .i64 0]⟩ 27 (0, 0)) M0 rfl (by kernel_rfl) (by kernel_rfl) ?_
  intro b5068 w5069 M5070
  refine W_nil ?_
  refine N_then ?_
  refine G_seq ?_
  refine G_region ?_
  refine W_run 1 [(2, .pointer (some ⟨b5068, 0, none⟩)), (3, .slice p5059 x5057.length c5060)] w5069 (by kernel_rfl) ?_
  obtain ⟨r5071, hr5071, hm⟩ := gx_bind hm
  refine W_call 76 #[.slice p5059 x5057.length c5060] (by kernel_rfl) (by kernel_rfl) ?_
  refine (c_s_DrawIsRing w5069 x5057 p5059 c5060 (h5061.mem0 M5070) hr5071).mono ?_
  rintro e_ w5077 ⟨p5073, c5074, sg5075, rfl, ho5076, K5078⟩
  have M5079 := M5070.call K5078
  refine ⟨_, rfl, ?_⟩
  refine W_store _ _ _ true 3 b5068 0 [.slice none 0 0, .int .i64 0, .int .i64 0] 27 (.agg #[.slice p5073 r5071.Items.length c5074, .int .i64 r5071.Head, .int .i64 r5071.Tail]) 0 [.slice p5073 r5071.Items.length c5074, .int .i64 r5071.Head, .int .i64 r5071.Tail] M5079 (by kernel_rfl) rfl (by kernel_rfl) (by kernel_rfl) (by kernel_rfl) (by kernel_rfl) (by kernel_rfl) (by kernel_rfl) (by kernel_rfl) (by kernel_rfl) ?_
  intro w5080 M5081
  refine W_nil ?_
  refine N_then ?_
  refine G_ret ?_
  obtain rfl := Option.some.inj hm
  refine N_ret [.agg #[.slice p5073 r5071.Items.length c5074, .int .i64 r5071.Head, .int .i64 r5071.Tail]] (RVs_cons (RV_cell (g := true) (k := 3) (b := b5068) (off := 0) (cs := [.slice p5073 r5071.Items.length c5074, .int .i64 r5071.Head, .int .i64 r5071.Tail]) (e := 27) (fr := (0, 0)) (v := .agg #[.slice p5073 r5071.Items.length c5074, .int .i64 r5071.Head, .int .i64 r5071.Tail]) (M5081.blk 0 (b := b5068) (o := .cells ⟨[.slice p5073 r5071.Items.length c5074, .int .i64 r5071.Head, .int .i64 r5071.Tail]⟩ 27 (0, 0)) (by kernel_rfl)) (by kernel_rfl) (by kernel_rfl) (by kernel_rfl)) RVs_nil) ?_
  exact ⟨p5073, c5074, sg5075, rfl, ho5076, M5081.pick [1] (by kernel_rfl)⟩
theorem c_i_copyInts (w : World) (x5280 : List Int) (p5282 : Option Addr) (c5283 : Nat) (h5284 : rdS encI w x5280 p5282 c5283) {r : (List Int)} (hm : M.i_copyInts x5280 = some r) :
    Calls Try.prog 66 #[.slice p5282 x5280.length c5283] w fun e w' => ∃ (p5286 : Option Addr) (c5287 : Nat) (sg5288 : Seg), e = .returned (.slice p5286 r.length c5287) ∧ ownS encI r p5286 c5287 sg5288 ∧ Mem [] w w' [sg5288] := by
  unfold M.i_copyInts at hm
  refine C_enter Try.func66 rfl (by kernel_rfl) ?_
  have M0 := Mem.refl [] w
  refine G_seq ?_
  refine G_region ?_
  refine W_run 1 [(0, .slice p5282 x5280.length c5283)] w (by kernel_rfl) ?_
  refine W_nil ?_
  refine N_then ?_
  refine G_seq ?_
  refine G_region ?_
  refine W_lit (E := encI) ([] : List Int) 0 [] 3 M0 (by kernel_rfl) (by kernel_rfl) (by kernel_rfl) (by kernel_rfl) (by kernel_rfl) ?_
  intro p5290 c5291 sg5292 w5293 ho5294 M5295
  refine W_run 1 [(3, .slice p5290 ([] : List Int).length c5291), (4, .slice p5282 x5280.length c5283)] w5293 (by kernel_rfl) ?_
  obtain ⟨ap5297, hap5297, hm⟩ := gx_bind hm
  refine W_append (E := encI) _ _ _ 8 [.int .i64 0] 0 c5283 M5295 ho5294 (by kernel_rfl) (by kernel_rfl) (by kernel_rfl) rfl (by kernel_rfl) (by kernel_rfl) (by kernel_rfl) (by kernel_rfl) (by kernel_rfl) (by kernel_rfl) (h5284.mem0 M5295) hap5297 ?_
  intro p5298 c5299 sg5300 w5301 ho5302 M5303
  refine W_run 1 [(2, .slice p5298 ap5297.length c5299)] w5301 (by kernel_rfl) ?_
  refine W_nil ?_
  refine N_then ?_
  refine G_ret ?_
  obtain rfl := Option.some.inj hm
  refine N_ret [.slice p5298 ap5297.length c5299] (RVs_cons (RV_tmp (by kernel_rfl)) RVs_nil) ?_
  exact ⟨p5298, c5299, sg5300, rfl, ho5302, M5303.pick [0] (by kernel_rfl)⟩
theorem c_i_TakeWords (w : World) (x5116 : Ring) (p5118 : Option Addr) (c5119 : Nat) (h5120 : rdS encI w x5116.Items p5118 c5119) (x5121 : Int) {r : Ring × (List Int) × Bool} (hm : M.i_TakeWords x5116 x5121 = some r) :
    Calls Try.prog 31 #[.agg #[.slice p5118 x5116.Items.length c5119, .int .i64 x5116.Head, .int .i64 x5116.Tail], .int .i64 x5121] w fun e w' => ∃ (p5123 : Option Addr) (c5124 : Nat) (sg5125 : Seg), ∃ (p5127 : Option Addr) (c5128 : Nat) (sg5129 : Seg), e = .returned (.tuple #[.agg #[.slice p5123 r.1.Items.length c5124, .int .i64 r.1.Head, .int .i64 r.1.Tail], .slice p5127 r.2.1.length c5128, .bool r.2.2]) ∧ ownS encI r.1.Items p5123 c5124 sg5125 ∧ ownS encI r.2.1 p5127 c5128 sg5129 ∧ Mem [] w w' [sg5125, sg5129] := by
  unfold M.i_TakeWords at hm
  refine C_enter Try.func31 rfl (by kernel_rfl) ?_
  have M0 := Mem.refl [] w
  refine G_seq ?_
  refine G_region ?_
  refine W_new (fun b => .pointer (some ⟨b, 0, none⟩)) (.cells ⟨[.slice p5118 x5116.Items.length c5119, .int .i64 x5116.Head, .int .i64 x5116.Tail]⟩ 27 (0, 0)) M0 rfl (by kernel_rfl) (by kernel_rfl) ?_
  intro b5131 w5132 M5133
  refine W_new (fun b => .pointer (some ⟨b, 0, none⟩)) (.cells ⟨[.slice none 0 0, .int .i64 0, .int .i64 0]⟩ 27 (0, 0)) M5133 rfl (by kernel_rfl) (by kernel_rfl) ?_
  intro b5136 w5137 M5138
  refine W_run 2 [(1, .int .i64 x5121), (2, .pointer (some ⟨b5131, 0, none⟩)), (4, .pointer (some ⟨b5136, 0, none⟩))] w5137 (by kernel_rfl) ?_
  refine W_nil ?_
  refine N_then ?_
  refine G_seq ?_
  refine G_seq ?_
  obtain ⟨o5145, ho5146, hm5147⟩ := gx_bind hm
  refine G_meet (fun a w' => Mem [] w w' [[(b5131, .cells ⟨[.slice p5118 x5116.Items.length c5119, .int .i64 x5116.Head, .int .i64 x5116.Tail]⟩ 27 (0, 0))], [(b5136, .cells ⟨[.slice none 0 0, .int .i64 0, .int .i64 0]⟩ 27 (0, 0))]] ∧ Sat Try.f31.ntmps [(1, .int .i64 x5121), (2, .pointer (some ⟨b5131, 0, none⟩)), (4, .pointer (some ⟨b5136, 0, none⟩)), (15, .bool o5145)] a) ?_ ?_
  · have hm := ho5146
    refine G_region ?_
    refine W_val (.agg #[.slice p5118 x5116.Items.length c5119, .int .i64 x5116.Head, .int .i64 x5116.Tail]) w5137 (by kernel_rfl) (E_load (e := 27) (fr := (0, 0)) _ _ true 3 b5131 0 [.slice p5118 x5116.Items.length c5119, .int .i64 x5116.Head, .int .i64 x5116.Tail] (.agg #[.slice p5118 x5116.Items.length c5119, .int .i64 x5116.Head, .int .i64 x5116.Tail]) rfl (by kernel_rfl) (by kernel_rfl) (by kernel_rfl) (M5138.blk 0 (b := b5131) (o := .cells ⟨[.slice p5118 x5116.Items.length c5119, .int .i64 x5116.Head, .int .i64 x5116.Tail]⟩ 27 (0, 0)) (by kernel_rfl))) ?_
    obtain ⟨r5148, hr5148, hm⟩ := gx_bind hm
    refine W_call 24 #[.agg #[.slice p5118 x5116.Items.length c5119, .int .i64 x5116.Head, .int .i64 x5116.Tail]] (by kernel_rfl) (by kernel_rfl) ?_
    refine (c_i_IsRing w5137 x5116 p5118 c5119 (h5120.mem0 M5138) hr5148).mono ?_
    rintro e_ w5149 ⟨rfl, K5150⟩
    have M5151 := M5138.call0 K5150
    refine ⟨_, rfl, ?_⟩
    refine W_run 2 [(1, .int .i64 x5121), (2, .pointer (some ⟨b5131, 0, none⟩)), (4, .pointer (some ⟨b5136, 0, none⟩)), (12, .bool (!r5148))] w5149 (by kernel_rfl) ?_
    rcases gx_bif hm with ⟨hc5152, hm⟩ | ⟨hc5152, hm⟩
    · refine W_known 12 true (by kernel_rfl) hc5152 ?_
      refine W_run 3 [(1, .int .i64 x5121), (2, .pointer (some ⟨b5131, 0, none⟩)), (4, .pointer (some ⟨b5136, 0, none⟩)), (15, .bool true)] w5149 (by kernel_rfl) ?_
      refine W_nil ?_
      obtain rfl := Option.some.inj hm
      exact N_meet fun a ha => ⟨M5151.pick [0, 1] (by kernel_rfl), ha.sub (by kernel_rfl)⟩
    · refine W_known 12 false (by kernel_rfl) hc5152 ?_
      refine W_run 3 [(1, .int .i64 x5121), (2, .pointer (some ⟨b5131, 0, none⟩)), (4, .pointer (some ⟨b5136, 0, none⟩)), (15, .bool (decide (x5121 < 0)))] w5149 (by kernel_rfl) ?_
      refine W_nil ?_
      obtain rfl := Option.some.inj hm
      exact N_meet fun a ha => ⟨M5151.pick [0, 1] (by kernel_rfl), ha.sub (by kernel_rfl)⟩
  · intro a5155 w5153 ⟨M5154, hS5156⟩
    refine N_use hS5156 ?_
    have hm := hm5147
    refine N_then ?_
    rcases gx_bif hm with ⟨hc5157, hm⟩ | ⟨hc5157, hm⟩
    · refine G_cond_t (b := o5145) hc5157 (by kernel_rfl) ?_
      refine G_seq ?_
      refine G_region ?_
      refine W_run 1 [(4, .pointer (some ⟨b5136, 0, none⟩)), (16, .agg #[.slice none 0 0, .int .i64 0, .int .i64 0])] w5153 (by kernel_rfl) ?_
      refine W_store _ _ _ true 3 b5136 0 [.slice none 0 0, .int .i64 0, .int .i64 0] 27 (.agg #[.slice none 0 0, .int .i64 0, .int .i64 0]) 1 [.slice none 0 0, .int .i64 0, .int .i64 0] M5154 (by kernel_rfl) rfl (by kernel_rfl) (by kernel_rfl) (by kernel_rfl) (by kernel_rfl) (by kernel_rfl) (by kernel_rfl) (by kernel_rfl) (by kernel_rfl) ?_
      intro w5159 M5160
      refine W_run 2 [(4, .pointer (some ⟨b5136, 0, none⟩)), (5, .slice none 0 0), (6, .bool false)] w5159 (by kernel_rfl) ?_
      refine W_nil ?_
      refine N_then ?_
      refine G_ret ?_
      refine N_then_ret ?_
      obtain rfl := Option.some.inj hm
      refine N_ret [.agg #[.slice none 0 0, .int .i64 0, .int .i64 0], .slice none 0 0, .bool false] (RVs_cons (RV_cell (g := true) (k := 3) (b := b5136) (off := 0) (cs := [.slice none 0 0, .int .i64 0, .int .i64 0]) (e := 27) (fr := (0, 0)) (v := .agg #[.slice none 0 0, .int .i64 0, .int .i64 0]) (M5160.blk 1 (b := b5136) (o := .cells ⟨[.slice none 0 0, .int .i64 0, .int .i64 0]⟩ 27 (0, 0)) (by kernel_rfl)) (by kernel_rfl) (by kernel_rfl) (by kernel_rfl)) (RVs_cons (RV_tmp (by kernel_rfl)) (RVs_cons (RV_tmp (by kernel_rfl)) RVs_nil))) ?_
      exact ⟨none, 0, [], none, 0, [], rfl, ownS_nil, ownS_nil, M5160.pick [100000, 100001] (by kernel_rfl)⟩
    · refine G_cond_f (b := o5145) hc5157 (by kernel_rfl) ?_
      refine G_skip ?_
      refine N_then ?_
      refine G_seq ?_
      obtain ⟨r5164, hr5164, hm⟩ := gx_bind hm
      obtain ⟨r5170, hr5170, hm⟩ := gx_bind hm
      refine G_sub [(1, .int .i64 x5121), (2, .pointer (some ⟨b5131, 0, none⟩)), (4, .pointer (some ⟨b5136, 0, none⟩)), (15, .bool o5145)] (by kernel_rfl) ?_
      refine G_dagL 7 [[], [0], [], [], [3], [2, 4], []] [[], [], [], [], [], [], []] [[], [], [], [], [], [], []] [[], [], [], [], [], [], [1]] [[], [], [], [], [], [], [1]] [[], [], [], [], [], [], []] (fun _ => []) (fun i => ([fun f v s => v = (.agg #[.slice p5118 x5116.Items.length c5119, .int .i64 x5116.Head, .int .i64 x5116.Tail] : Value) ∧ s = [], fun f v s => ∃ (p5166 : Option Addr) (c5167 : Nat), v = (.slice p5166 r5164.length c5167 : Value) ∧ ownS encI r5164 p5166 c5167 s, fun f v s => v = (.int .i64 x5121 : Value) ∧ s = [], fun f v s => v = (.agg #[.slice p5118 x5116.Items.length c5119, .int .i64 x5116.Head, .int .i64 x5116.Tail] : Value) ∧ s = [], fun f v s => v = (.int .i64 r5170 : Value) ∧ s = [], fun f v s => v = (.int .i64 (gxMin x5121 r5170) : Value) ∧ s = [], fun f v s => v = ((atPath (f 1) []) : Value) ∧ s = []] : List ((Nat → Value) → Value → Seg → Prop)).getD i (fun _ _ _ => False)) (fun j f v => ∃ s, (fun i => ([fun f v s => v = (.agg #[.slice p5118 x5116.Items.length c5119, .int .i64 x5116.Head, .int .i64 x5116.Tail] : Value) ∧ s = [], fun f v s => ∃ (p5166 : Option Addr) (c5167 : Nat), v = (.slice p5166 r5164.length c5167 : Value) ∧ ownS encI r5164 p5166 c5167 s, fun f v s => v = (.int .i64 x5121 : Value) ∧ s = [], fun f v s => v = (.agg #[.slice p5118 x5116.Items.length c5119, .int .i64 x5116.Head, .int .i64 x5116.Tail] : Value) ∧ s = [], fun f v s => v = (.int .i64 r5170 : Value) ∧ s = [], fun f v s => v = (.int .i64 (gxMin x5121 r5170) : Value) ∧ s = [], fun f v s => v = ((atPath (f 1) []) : Value) ∧ s = []] : List ((Nat → Value) → Value → Seg → Prop)).getD i (fun _ _ _ => False)) j f v s) [] [1, 5, 6] [1] (fun _ _ _ s h => ⟨s, h⟩) (by kernel_rfl) (by kernel_rfl) (M5154.preNil 7) (by kernel_rfl) (by kernel_rfl) (by kernel_rfl) (by kernel_rfl) (allOb_cons ?_ (allOb_cons ?_ (allOb_cons ?_ (allOb_cons ?_ (allOb_cons ?_ (allOb_cons ?_ (allOb_cons ?_ allOb_nil))))))) ?_
      · intro g5162 f5163
        intro R w5171 M5172
        refine W_val (.agg #[.slice p5118 x5116.Items.length c5119, .int .i64 x5116.Head, .int .i64 x5116.Tail]) w5171 (by kernel_rfl) (E_load (e := 27) (fr := (0, 0)) _ _ true 3 b5131 0 [.slice p5118 x5116.Items.length c5119, .int .i64 x5116.Head, .int .i64 x5116.Tail] (.agg #[.slice p5118 x5116.Items.length c5119, .int .i64 x5116.Head, .int .i64 x5116.Tail]) rfl (by kernel_rfl) (by kernel_rfl) (by kernel_rfl) (M5172.blk 0 (b := b5131) (o := .cells ⟨[.slice p5118 x5116.Items.length c5119, .int .i64 x5116.Head, .int .i64 x5116.Tail]⟩ 27 (0, 0)) (by kernel_rfl))) ?_
        exact W_nil (ob_end (.agg #[.slice p5118 x5116.Items.length c5119, .int .i64 x5116.Head, .int .i64 x5116.Tail]) [] rfl (by kernel_rfl) ⟨by kernel_rfl, rfl⟩ M5172)
      · intro g5162 f5163
        intro v0_ hb0_
        obtain ⟨rfl, _⟩ := hb0_
        intro R w5175 M5176
        refine W_call 61 #[.agg #[.slice p5118 x5116.Items.length c5119, .int .i64 x5116.Head, .int .i64 x5116.Tail]] (by kernel_rfl) (by kernel_rfl) ?_
        refine (c_i_ringWords w5175 x5116 p5118 c5119 (h5120.mem0 M5176) hr5164).mono ?_
        rintro e_ w5177 ⟨p5166, c5167, sg5168, rfl, ho5169, K5179⟩
        refine ⟨_, rfl, ?_⟩
        exact W_nil (ob_end (.slice p5166 r5164.length c5167) sg5168 rfl (by kernel_rfl) ⟨p5166, c5167, rfl, ho5169⟩ (Mem.callMid M5176 K5179))
      · intro g5162 f5163
        intro R w5180 M5181
        refine W_run 1 [(19, .int .i64 x5121)] w5180 (by kernel_rfl) ?_
        exact W_nil (ob_end (.int .i64 x5121) [] rfl (by kernel_rfl) ⟨by kernel_rfl, rfl⟩ M5181)
      · intro g5162 f5163
        intro R w5184 M5185
        refine W_val (.agg #[.slice p5118 x5116.Items.length c5119, .int .i64 x5116.Head, .int .i64 x5116.Tail]) w5184 (by kernel_rfl) (E_load (e := 27) (fr := (0, 0)) _ _ true 3 b5131 0 [.slice p5118 x5116.Items.length c5119, .int .i64 x5116.Head, .int .i64 x5116.Tail] (.agg #[.slice p5118 x5116.Items.length c5119, .int .i64 x5116.Head, .int .i64 x5116.Tail]) rfl (by kernel_rfl) (by kernel_rfl) (by kernel_rfl) (M5185.blk 0 (b := b5131) (o := .cells ⟨[.slice p5118 x5116.Items.length c5119, .int .i64 x5116.Head, .int .i64 x5116.Tail]⟩ 27 (0, 0)) (by kernel_rfl))) ?_
        exact W_nil (ob_end (.agg #[.slice p5118 x5116.Items.length c5119, .int .i64 x5116.Head, .int .i64 x5116.Tail]) [] rfl (by kernel_rfl) ⟨by kernel_rfl, rfl⟩ M5185)
      · intro g5162 f5163
        intro v3_ hb3_
        obtain ⟨rfl, _⟩ := hb3_
        intro R w5188 M5189
        refine W_call 59 #[.agg #[.slice p5118 x5116.Items.length c5119, .int .i64 x5116.Head, .int .i64 x5116.Tail]] (by kernel_rfl) (by kernel_rfl) ?_
        refine (c_i_Ring_count w5188 x5116 p5118 c5119 (h5120.mem0 M5189) hr5170).mono ?_
        rintro e_ w5190 ⟨rfl, K5192⟩
        refine ⟨_, rfl, ?_⟩
        exact W_nil (ob_end (.int .i64 r5170) [] rfl (by kernel_rfl) ⟨rfl, rfl⟩ (M5189.call0 K5192))
      · intro g5162 f5163
        intro v2_ hb2_
        obtain ⟨rfl, _⟩ := hb2_
        intro v4_ hb4_
        obtain ⟨rfl, _⟩ := hb4_
        intro R w5193 M5194
        refine W_run 1 [(22, .int .i64 (gxMin x5121 r5170))] w5193 (by kernel_rfl) ?_
        exact W_nil (ob_end (.int .i64 (gxMin x5121 r5170)) [] rfl (by kernel_rfl) ⟨by kernel_rfl, rfl⟩ M5194)
      · intro g5162 f5163
        intro v1_ hb1_
        obtain ⟨_, p5166, c5167, rfl, _⟩ := hb1_
        intro R w5197 M5198
        refine W_run 1 [(7, .slice p5166 r5164.length c5167)] w5197 (by kernel_rfl) ?_
        exact W_nil (ob_end (.slice p5166 r5164.length c5167) [] rfl (by kernel_rfl) ⟨by kernel_rfl, rfl⟩ M5198)
      · intro g5162 f5163
        intro v1_ hb1_
        obtain ⟨p5166, c5167, rfl, ho5169⟩ := hb1_
        intro v5_ hb5_
        obtain ⟨rfl, _⟩ := hb5_
        intro v6_ hb6_
        obtain ⟨hv6_, _⟩ := hb6_
        obtain rfl : v6_ = (.slice p5166 r5164.length c5167 : Value) := hv6_.trans (by kernel_rfl)
        intro w5201 M5202
        have M5203 : Mem [] w w5201 [[(b5131, .cells ⟨[.slice p5118 x5116.Items.length c5119, .int .i64 x5116.Head, .int .i64 x5116.Tail]⟩ 27 (0, 0))], [(b5136, .cells ⟨[.slice none 0 0, .int .i64 0, .int .i64 0]⟩ 27 (0, 0))], (g5162 1)] := M5202
        refine W_run 1 [(2, .pointer (some ⟨b5131, 0, none⟩)), (4, .pointer (some ⟨b5136, 0, none⟩)), (7, .slice p5166 r5164.length c5167), (8, .int .i64 (gxMin x5121 r5170))] w5201 (by kernel_rfl) ?_
        refine W_nil ?_
        refine N_then ?_
        refine G_seq ?_
        obtain ⟨ys5206, hys5206, hm⟩ := gx_bind hm
        obtain ⟨r5208, hr5208, hm⟩ := gx_bind hm
        obtain ⟨ys5214, hys5214, hm⟩ := gx_bind hm
        refine G_sub [(2, .pointer (some ⟨b5131, 0, none⟩)), (4, .pointer (some ⟨b5136, 0, none⟩)), (7, .slice p5166 r5164.length c5167), (8, .int .i64 (gxMin x5121 r5170))] (by kernel_rfl) ?_
        refine G_dagL 15 [[], [0], [1], [], [3], [], [4, 5], [6], [], [], [8, 9], [2, 7, 10], [], [], [12, 13]] [[], [], [], [], [], [], [], [], [], [], [], [], [], [], []] [[], [], [], [], [], [], [], [], [], [], [], [], [], [], []] [[], [], [], [], [], [], [], [], [], [], [], [], [], [], []] [[], [], [], [], [], [], [], [], [], [], [], [], [], [], []] [[], [], [], [], [], [], [], [], [], [], [], [], [], [], []] (fun _ => []) (fun i => ([fun f v s => v = (.pointer (some ⟨b5131, 0, none⟩) : Value) ∧ s = [], fun f v s => v = (.slice p5118 x5116.Items.length c5119 : Value) ∧ s = [], fun f v s => v = (.int .i64 (x5116.Items.length : Int) : Value) ∧ s = [], fun f v s => v = (.pointer (some ⟨b5131, 1, none⟩) : Value) ∧ s = [], fun f v s => v = (.int .i64 x5116.Head : Value) ∧ s = [], fun f v s => v = (.int .i64 (gxMin x5121 r5170) : Value) ∧ s = [], fun f v s => v = (.int .i64 (w64 (x5116.Head + (gxMin x5121 r5170))) : Value) ∧ s = [], fun f v s => v = (.int .i64 (gxAnd .i64 (w64 (x5116.Head + (gxMin x5121 r5170))) 65535) : Value) ∧ s = [], fun f v s => v = (.slice p5166 r5164.length c5167 : Value) ∧ s = [], fun f v s => v = (.int .i64 (gxMin x5121 r5170) : Value) ∧ s = [], fun f v s => v = (.slice (subP p5166 (gxMin x5121 r5170).toNat c5167 1) ys5206.length (c5167 - (gxMin x5121 r5170).toNat) : Value) ∧ s = [], fun f v s => ∃ (p5210 : Option Addr) (c5211 : Nat), v = (.agg #[.slice p5210 r5208.Items.length c5211, .int .i64 r5208.Head, .int .i64 r5208.Tail] : Value) ∧ ownS encI r5208.Items p5210 c5211 s, fun f v s => v = (.slice p5166 r5164.length c5167 : Value) ∧ s = [], fun f v s => v = (.int .i64 (gxMin x5121 r5170) : Value) ∧ s = [], fun f v s => v = (.slice (subP p5166 (0 : Int).toNat c5167 1) ys5214.length (c5167 - (0 : Int).toNat) : Value) ∧ s = []] : List ((Nat → Value) → Value → Seg → Prop)).getD i (fun _ _ _ => False)) (fun j f v => ∃ s, (fun i => ([fun f v s => v = (.pointer (some ⟨b5131, 0, none⟩) : Value) ∧ s = [], fun f v s => v = (.slice p5118 x5116.Items.length c5119 : Value) ∧ s = [], fun f v s => v = (.int .i64 (x5116.Items.length : Int) : Value) ∧ s = [], fun f v s => v = (.pointer (some ⟨b5131, 1, none⟩) : Value) ∧ s = [], fun f v s => v = (.int .i64 x5116.Head : Value) ∧ s = [], fun f v s => v = (.int .i64 (gxMin x5121 r5170) : Value) ∧ s = [], fun f v s => v = (.int .i64 (w64 (x5116.Head + (gxMin x5121 r5170))) : Value) ∧ s = [], fun f v s => v = (.int .i64 (gxAnd .i64 (w64 (x5116.Head + (gxMin x5121 r5170))) 65535) : Value) ∧ s = [], fun f v s => v = (.slice p5166 r5164.length c5167 : Value) ∧ s = [], fun f v s => v = (.int .i64 (gxMin x5121 r5170) : Value) ∧ s = [], fun f v s => v = (.slice (subP p5166 (gxMin x5121 r5170).toNat c5167 1) ys5206.length (c5167 - (gxMin x5121 r5170).toNat) : Value) ∧ s = [], fun f v s => ∃ (p5210 : Option Addr) (c5211 : Nat), v = (.agg #[.slice p5210 r5208.Items.length c5211, .int .i64 r5208.Head, .int .i64 r5208.Tail] : Value) ∧ ownS encI r5208.Items p5210 c5211 s, fun f v s => v = (.slice p5166 r5164.length c5167 : Value) ∧ s = [], fun f v s => v = (.int .i64 (gxMin x5121 r5170) : Value) ∧ s = [], fun f v s => v = (.slice (subP p5166 (0 : Int).toNat c5167 1) ys5214.length (c5167 - (0 : Int).toNat) : Value) ∧ s = []] : List ((Nat → Value) → Value → Seg → Prop)).getD i (fun _ _ _ => False)) j f v s) [] [11, 14] [11] (fun _ _ _ s h => ⟨s, h⟩) (by kernel_rfl) (by kernel_rfl) (M5203.preNil 15) (by kernel_rfl) (by kernel_rfl) (by kernel_rfl) (by kernel_rfl) (allOb_cons ?_ (allOb_cons ?_ (allOb_cons ?_ (allOb_cons ?_ (allOb_cons ?_ (allOb_cons ?_ (allOb_cons ?_ (allOb_cons ?_ (allOb_cons ?_ (allOb_cons ?_ (allOb_cons ?_ (allOb_cons ?_ (allOb_cons ?_ (allOb_cons ?_ (allOb_cons ?_ allOb_nil))))))))))))))) ?_
        · intro g5204 f5205
          intro R w5216 M5217
          refine W_run 1 [(23, .pointer (some ⟨b5131, 0, none⟩))] w5216 (by kernel_rfl) ?_
          exact W_nil (ob_end (.pointer (some ⟨b5131, 0, none⟩)) [] rfl (by kernel_rfl) ⟨by kernel_rfl, rfl⟩ M5217)
        · intro g5204 f5205
          intro v0_ hb0_
          obtain ⟨rfl, _⟩ := hb0_
          intro R w5220 M5221
          refine W_val (.slice p5118 x5116.Items.length c5119) w5220 (by kernel_rfl) (E_load (e := 27) (fr := (0, 0)) _ _ false 1 b5131 0 [.slice p5118 x5116.Items.length c5119, .int .i64 x5116.Head, .int .i64 x5116.Tail] (.slice p5118 x5116.Items.length c5119) rfl (by kernel_rfl) (by kernel_rfl) (by kernel_rfl) (M5221.blk 0 (b := b5131) (o := .cells ⟨[.slice p5118 x5116.Items.length c5119, .int .i64 x5116.Head, .int .i64 x5116.Tail]⟩ 27 (0, 0)) (by kernel_rfl))) ?_
          exact W_nil (ob_end (.slice p5118 x5116.Items.length c5119) [] rfl (by kernel_rfl) ⟨by kernel_rfl, rfl⟩ M5221)
        · intro g5204 f5205
          intro v1_ hb1_
          obtain ⟨rfl, _⟩ := hb1_
          intro R w5224 M5225
          refine W_run 1 [(25, .int .i64 (x5116.Items.length : Int))] w5224 (by kernel_rfl) ?_
          exact W_nil (ob_end (.int .i64 (x5116.Items.length : Int)) [] rfl (by kernel_rfl) ⟨by kernel_rfl, rfl⟩ M5225)
        · intro g5204 f5205
          intro R w5228 M5229
          refine W_run 1 [(26, .pointer (some ⟨b5131, 1, none⟩))] w5228 (by kernel_rfl) ?_
          exact W_nil (ob_end (.pointer (some ⟨b5131, 1, none⟩)) [] rfl (by kernel_rfl) ⟨by kernel_rfl, rfl⟩ M5229)
        · intro g5204 f5205
          intro v3_ hb3_
          obtain ⟨rfl, _⟩ := hb3_
          intro R w5232 M5233
          refine W_val (.int .i64 x5116.Head) w5232 (by kernel_rfl) (E_load (e := 27) (fr := (0, 0)) _ _ false 1 b5131 1 [.slice p5118 x5116.Items.length c5119, .int .i64 x5116.Head, .int .i64 x5116.Tail] (.int .i64 x5116.Head) rfl (by kernel_rfl) (by kernel_rfl) (by kernel_rfl) (M5233.blk 0 (b := b5131) (o := .cells ⟨[.slice p5118 x5116.Items.length c5119, .int .i64 x5116.Head, .int .i64 x5116.Tail]⟩ 27 (0, 0)) (by kernel_rfl))) ?_
          exact W_nil (ob_end (.int .i64 x5116.Head) [] rfl (by kernel_rfl) ⟨by kernel_rfl, rfl⟩ M5233)
        · intro g5204 f5205
          intro R w5236 M5237
          refine W_run 1 [(28, .int .i64 (gxMin x5121 r5170))] w5236 (by kernel_rfl) ?_
          exact W_nil (ob_end (.int .i64 (gxMin x5121 r5170)) [] rfl (by kernel_rfl) ⟨by kernel_rfl, rfl⟩ M5237)
        · intro g5204 f5205
          intro v4_ hb4_
          obtain ⟨rfl, _⟩ := hb4_
          intro v5_ hb5_
          obtain ⟨rfl, _⟩ := hb5_
          intro R w5240 M5241
          refine W_run 1 [(29, .int .i64 (w64 (x5116.Head + (gxMin x5121 r5170))))] w5240 (by kernel_rfl) ?_
          exact W_nil (ob_end (.int .i64 (w64 (x5116.Head + (gxMin x5121 r5170)))) [] rfl (by kernel_rfl) ⟨by kernel_rfl, rfl⟩ M5241)
        · intro g5204 f5205
          intro v6_ hb6_
          obtain ⟨rfl, _⟩ := hb6_
          intro R w5244 M5245
          refine W_run 1 [(30, .int .i64 (gxAnd .i64 (w64 (x5116.Head + (gxMin x5121 r5170))) 65535))] w5244 (by kernel_rfl) ?_
          exact W_nil (ob_end (.int .i64 (gxAnd .i64 (w64 (x5116.Head + (gxMin x5121 r5170))) 65535)) [] rfl (by kernel_rfl) ⟨by kernel_rfl, rfl⟩ M5245)
        · intro g5204 f5205
          intro R w5248 M5249
          refine W_run 1 [(31, .slice p5166 r5164.length c5167)] w5248 (by kernel_rfl) ?_
          exact W_nil (ob_end (.slice p5166 r5164.length c5167) [] rfl (by kernel_rfl) ⟨by kernel_rfl, rfl⟩ M5249)
        · intro g5204 f5205
          intro R w5252 M5253
          refine W_run 1 [(32, .int .i64 (gxMin x5121 r5170))] w5252 (by kernel_rfl) ?_
          exact W_nil (ob_end (.int .i64 (gxMin x5121 r5170)) [] rfl (by kernel_rfl) ⟨by kernel_rfl, rfl⟩ M5253)
        · intro g5204 f5205
          intro v8_ hb8_
          obtain ⟨rfl, _⟩ := hb8_
          intro v9_ hb9_
          obtain ⟨rfl, _⟩ := hb9_
          intro R w5256 M5257
          refine W_val (.slice (subP p5166 (gxMin x5121 r5170).toNat c5167 1) ys5206.length (c5167 - (gxMin x5121 r5170).toNat)) w5256 (by kernel_rfl) (E_slice (E := encI) _ _ _ _ r5164.length (gxMin x5121 r5170) (r5164.length : Int) rfl (by kernel_rfl) (Or.inr ⟨_, rfl, by kernel_rfl⟩) (Or.inl ⟨rfl, rfl⟩) (by kernel_rfl) (ho5169.rd M5257 2 (by kernel_rfl)) rfl hys5206) ?_
          exact W_nil (ob_end (.slice (subP p5166 (gxMin x5121 r5170).toNat c5167 1) ys5206.length (c5167 - (gxMin x5121 r5170).toNat)) [] rfl (by kernel_rfl) ⟨by kernel_rfl, rfl⟩ M5257)
        · intro g5204 f5205
          intro v2_ hb2_
          obtain ⟨rfl, _⟩ := hb2_
          intro v7_ hb7_
          obtain ⟨rfl, _⟩ := hb7_
          intro v10_ hb10_
          obtain ⟨rfl, _⟩ := hb10_
          intro R w5260 M5261
          refine W_call 65 #[.int .i64 (x5116.Items.length : Int), .int .i64 (gxAnd .i64 (w64 (x5116.Head + (gxMin x5121 r5170))) 65535), .slice (subP p5166 (gxMin x5121 r5170).toNat c5167 1) ys5206.length (c5167 - (gxMin x5121 r5170).toNat)] (by kernel_rfl) (by kernel_rfl) ?_
          refine (c_i_ringOf w5260 (x5116.Items.length : Int) (gxAnd .i64 (w64 (x5116.Head + (gxMin x5121 r5170))) 65535) ys5206 (subP p5166 (gxMin x5121 r5170).toNat c5167 1) (c5167 - (gxMin x5121 r5170).toNat) ((ho5169.rd M5261 2 (by kernel_rfl)).sliceM hys5206) hr5208).mono ?_
          rintro e_ w5262 ⟨p5210, c5211, sg5212, rfl, ho5213, K5264⟩
          refine ⟨_, rfl, ?_⟩
          exact W_nil (ob_end (.agg #[.slice p5210 r5208.Items.length c5211, .int .i64 r5208.Head, .int .i64 r5208.Tail]) sg5212 rfl (by kernel_rfl) ⟨p5210, c5211, rfl, ho5213⟩ (Mem.callMid M5261 K5264))
        · intro g5204 f5205
          intro R w5265 M5266
          refine W_run 1 [(35, .slice p5166 r5164.length c5167)] w5265 (by kernel_rfl) ?_
          exact W_nil (ob_end (.slice p5166 r5164.length c5167) [] rfl (by kernel_rfl) ⟨by kernel_rfl, rfl⟩ M5266)
        · intro g5204 f5205
          intro R w5269 M5270
          refine W_run 1 [(36, .int .i64 (gxMin x5121 r5170))] w5269 (by kernel_rfl) ?_
          exact W_nil (ob_end (.int .i64 (gxMin x5121 r5170)) [] rfl (by kernel_rfl) ⟨by kernel_rfl, rfl⟩ M5270)
        · intro g5204 f5205
          intro v12_ hb12_
          obtain ⟨rfl, _⟩ := hb12_
          intro v13_ hb13_
          obtain ⟨rfl, _⟩ := hb13_
          intro R w5273 M5274
          refine W_val (.slice (subP p5166 (0 : Int).toNat c5167 1) ys5214.length (c5167 - (0 : Int).toNat)) w5273 (by kernel_rfl) (E_slice (E := encI) _ _ _ _ r5164.length 0 (gxMin x5121 r5170) rfl (by kernel_rfl) (Or.inl ⟨rfl, rfl⟩) (Or.inr ⟨_, rfl, by kernel_rfl⟩) (by kernel_rfl) (ho5169.rd M5274 2 (by kernel_rfl)) rfl hys5214) ?_
          exact W_nil (ob_end (.slice (subP p5166 (0 : Int).toNat c5167 1) ys5214.length (c5167 - (0 : Int).toNat)) [] rfl (by kernel_rfl) ⟨by kernel_rfl, rfl⟩ M5274)
        · intro g5204 f5205
          intro v11_ hb11_
          obtain ⟨p5210, c5211, rfl, ho5213⟩ := hb11_
          intro v14_ hb14_
          obtain ⟨rfl, _⟩ := hb14_
          intro w5277 M5278
          have M5279 : Mem [] w w5277 [[(b5131, .cells ⟨[.slice p5118 x5116.Items.length c5119, .int .i64 x5116.Head, .int .i64 x5116.Tail]⟩ 27 (0, 0))], [(b5136, .cells ⟨[.slice none 0 0, .int .i64 0, .int .i64 0]⟩ 27 (0, 0))], (g5162 1), (g5204 11)] := M5278
          obtain ⟨r5305, hr5305, hm⟩ := gx_bind hm
          refine W_call 66 #[.slice (subP p5166 (0 : Int).toNat c5167 1) ys5214.length (c5167 - (0 : Int).toNat)] (by kernel_rfl) (by kernel_rfl) ?_
          refine (c_i_copyInts w5277 ys5214 (subP p5166 (0 : Int).toNat c5167 1) (c5167 - (0 : Int).toNat) ((ho5169.rd M5279 2 (by kernel_rfl)).sliceM hys5214) hr5305).mono ?_
          rintro e_ w5311 ⟨p5307, c5308, sg5309, rfl, ho5310, K5312⟩
          have M5313 := M5279.call K5312
          refine ⟨_, rfl, ?_⟩
          refine W_store _ _ _ true 3 b5136 0 [.slice none 0 0, .int .i64 0, .int .i64 0] 27 (.agg #[.slice p5210 r5208.Items.length c5211, .int .i64 r5208.Head, .int .i64 r5208.Tail]) 1 [.slice p5210 r5208.Items.length c5211, .int .i64 r5208.Head, .int .i64 r5208.Tail] M5313 (by kernel_rfl) rfl (by kernel_rfl) (by kernel_rfl) (by kernel_rfl) (by kernel_rfl) (by kernel_rfl) (by kernel_rfl) (by kernel_rfl) (by kernel_rfl) ?_
          intro w5314 M5315
          refine W_run 2 [(4, .pointer (some ⟨b5136, 0, none⟩)), (5, .slice p5307 r5305.length c5308), (6, .bool true)] w5314 (by kernel_rfl) ?_
          refine W_nil ?_
          refine N_then ?_
          refine G_ret ?_
          obtain rfl := Option.some.inj hm
          refine N_ret [.agg #[.slice p5210 r5208.Items.length c5211, .int .i64 r5208.Head, .int .i64 r5208.Tail], .slice p5307 r5305.length c5308, .bool true] (RVs_cons (RV_cell (g := true) (k := 3) (b := b5136) (off := 0) (cs := [.slice p5210 r5208.Items.length c5211, .int .i64 r5208.Head, .int .i64 r5208.Tail]) (e := 27) (fr := (0, 0)) (v := .agg #[.slice p5210 r5208.Items.length c5211, .int .i64 r5208.Head, .int .i64 r5208.Tail]) (M5315.blk 1 (b := b5136) (o := .cells ⟨[.slice p5210 r5208.Items.length c5211, .int .i64 r5208.Head, .int .i64 r5208.Tail]⟩ 27 (0, 0)) (by kernel_rfl)) (by kernel_rfl) (by kernel_rfl) (by kernel_rfl)) (RVs_cons (RV_tmp (by kernel_rfl)) (RVs_cons (RV_tmp (by kernel_rfl)) RVs_nil))) ?_
          exact ⟨p5210, c5211, (g5204 11), p5307, c5308, sg5309, rfl, ho5213, ho5310, M5315.pick [3, 4] (by kernel_rfl)⟩
theorem c_i_TakeWord (w : World) (x5098 : Ring) (p5100 : Option Addr) (c5101 : Nat) (h5102 : rdS encI w x5098.Items p5100 c5101) {r : Ring × Int × Bool} (hm : M.i_TakeWord x5098 = some r) :
    Calls Try.prog 33 #[.agg #[.slice p5100 x5098.Items.length c5101, .int .i64 x5098.Head, .int .i64 x5098.Tail]] w fun e w' => ∃ (p5104 : Option Addr) (c5105 : Nat) (sg5106 : Seg), e = .returned (.tuple #[.agg #[.slice p5104 r.1.Items.length c5105, .int .i64 r.1.Head, .int .i64 r.1.Tail], .int .i64 r.2.1, .bool r.2.2]) ∧ ownS encI r.1.Items p5104 c5105 sg5106 ∧ Mem [] w w' [sg5106] := by
  unfold M.i_TakeWord at hm
  refine C_enter Try.func33 rfl (by kernel_rfl) ?_
  have M0 := Mem.refl [] w
  refine G_seq ?_
  refine G_region ?_
  refine W_new (fun b => .pointer (some ⟨b, 0, none⟩)) (.cells ⟨[.slice p5100 x5098.Items.length c5101, .int .i64 x5098.Head, .int .i64 x5098.Tail]⟩ 27 (0, 0)) M0 rfl (by kernel_rfl) (by kernel_rfl) ?_
  intro b5108 w5109 M5110
  refine W_new (fun b => .pointer (some ⟨b, 0, none⟩)) (.cells ⟨[.slice none 0 0, .int .i64 0, .int .i64 0]⟩ 27 (0, 0)) M5110 rfl (by kernel_rfl) (by kernel_rfl) ?_
  intro b5113 w5114 M5115
  refine W_run 2 [(1, .pointer (some ⟨b5108, 0, none⟩)), (2, .pointer (some ⟨b5113, 0, none⟩))] w5114 (by kernel_rfl) ?_
  refine W_nil ?_
  refine N_then ?_
  refine G_seq ?_
  refine G_region ?_
  refine W_val (.agg #[.slice p5100 x5098.Items.length c5101, .int .i64 x5098.Head, .int .i64 x5098.Tail]) w5114 (by kernel_rfl) (E_load (e := 27) (fr := (0, 0)) _ _ true 3 b5108 0 [.slice p5100 x5098.Items.length c5101, .int .i64 x5098.Head, .int .i64 x5098.Tail] (.agg #[.slice p5100 x5098.Items.length c5101, .int .i64 x5098.Head, .int .i64 x5098.Tail]) rfl (by kernel_rfl) (by kernel_rfl) (by kernel_rfl) (M5115.blk 0 (b := b5108) (o := .cells ⟨[.slice p5100 x5098.Items.length c5101, .int .i64 x5098.Head, .int .i64 x5098.Tail]⟩ 27 (0, 0)) (by kernel_rfl))) ?_
  obtain ⟨r5316, hr5316, hm⟩ := gx_bind hm
  refine W_call 31 #[.agg #[.slice p5100 x5098.Items.length c5101, .int .i64 x5098.Head, .int .i64 x5098.Tail], .int .i64 1] (by kernel_rfl) (by kernel_rfl) ?_
  refine (c_i_TakeWords w5114 x5098 p5100 c5101 (h5102.mem0 M5115) 1 hr5316).mono ?_
  rintro e_ w5327 ⟨p5318, c5319, sg5320, p5323, c5324, sg5325, rfl, ho5321, ho5326, K5328⟩
  have M5329 := M5115.call K5328
  refine ⟨_, rfl, ?_⟩
  refine W_run 4 [(2, .pointer (some ⟨b5113, 0, none⟩)), (11, .agg #[.slice p5318 r5316.1.Items.length c5319, .int .i64 r5316.1.Head, .int .i64 r5316.1.Tail]), (12, .slice p5323 r5316.2.1.length c5324), (13, .bool r5316.2.2)] w5327 (by kernel_rfl) ?_
  refine W_new (fun b => .pointer (some ⟨b, 0, none⟩)) (.cells ⟨[.slice none 0 0, .int .i64 0, .int .i64 0]⟩ 27 (0, 0)) M5329 rfl (by kernel_rfl) (by kernel_rfl) ?_
  intro b5332 w5333 M5334
  refine W_store _ _ _ true 3 b5332 0 [.slice none 0 0, .int .i64 0, .int .i64 0] 27 (.agg #[.slice p5318 r5316.1.Items.length c5319, .int .i64 r5316.1.Head, .int .i64 r5316.1.Tail]) 4 [.slice p5318 r5316.1.Items.length c5319, .int .i64 r5316.1.Head, .int .i64 r5316.1.Tail] M5334 (by kernel_rfl) rfl (by kernel_rfl) (by kernel_rfl) (by kernel_rfl) (by kernel_rfl) (by kernel_rfl) (by kernel_rfl) (by kernel_rfl) (by kernel_rfl) ?_
  intro w5335 M5336
  refine W_run 2 [(2, .pointer (some ⟨b5113, 0, none⟩)), (5, .pointer (some ⟨b5332, 0, none⟩)), (6, .slice p5323 r5316.2.1.length c5324), (7, .bool r5316.2.2)] w5335 (by kernel_rfl) ?_
  refine W_nil ?_
  refine N_then ?_
  refine G_seq ?_
  refine G_seq ?_
  obtain ⟨o5338, ho5339, hm5340⟩ := gx_bind hm
  refine G_meet (fun a w' => Mem [] w w' [[(b5113, .cells ⟨[.slice none 0 0, .int .i64 0, .int .i64 0]⟩ 27 (0, 0))], sg5320, sg5325, [(b5332, .cells ⟨[.slice p5318 r5316.1.Items.length c5319, .int .i64 r5316.1.Head, .int .i64 r5316.1.Tail]⟩ 27 (0, 0))]] ∧ Sat Try.f33.ntmps [(2, .pointer (some ⟨b5113, 0, none⟩)), (5, .pointer (some ⟨b5332, 0, none⟩)), (6, .slice p5323 r5316.2.1.length c5324), (20, .bool o5338)] a) ?_ ?_
  · have hm := ho5339
    refine G_region ?_
    refine W_run 3 [(2, .pointer (some ⟨b5113, 0, none⟩)), (5, .pointer (some ⟨b5332, 0, none⟩)), (6, .slice p5323 r5316.2.1.length c5324), (16, .bool (!r5316.2.2))] w5335 (by kernel_rfl) ?_
    rcases gx_bif hm with ⟨hc5341, hm⟩ | ⟨hc5341, hm⟩
    · refine W_known 16 true (by kernel_rfl) hc5341 ?_
      refine W_run 4 [(2, .pointer (some ⟨b5113, 0, none⟩)), (5, .pointer (some ⟨b5332, 0, none⟩)), (6, .slice p5323 r5316.2.1.length c5324), (20, .bool true)] w5335 (by kernel_rfl) ?_
      refine W_nil ?_
      obtain rfl := Option.some.inj hm
      exact N_meet fun a ha => ⟨M5336.pick [1, 2, 3, 4] (by kernel_rfl), ha.sub (by kernel_rfl)⟩
    · refine W_known 16 false (by kernel_rfl) hc5341 ?_
      refine W_run 4 [(2, .pointer (some ⟨b5113, 0, none⟩)), (5, .pointer (some ⟨b5332, 0, none⟩)), (6, .slice p5323 r5316.2.1.length c5324), (20, .bool ((r5316.2.1.length : Int) == 0))] w5335 (by kernel_rfl) ?_
      refine W_nil ?_
      obtain rfl := Option.some.inj hm
      exact N_meet fun a ha => ⟨M5336.pick [1, 2, 3, 4] (by kernel_rfl), ha.sub (by kernel_rfl)⟩
  · intro a5344 w5342 ⟨M5343, hS5345⟩
    refine N_use hS5345 ?_
    have hm := hm5340
    refine N_then ?_
    rcases gx_bif hm with ⟨hc5346, hm⟩ | ⟨hc5346, hm⟩
    · refine G_cond_t (b := o5338) hc5346 (by kernel_rfl) ?_
      refine G_seq ?_
      refine G_region ?_
      refine W_run 1 [(2, .pointer (some ⟨b5113, 0, none⟩)), (21, .agg #[.slice none 0 0, .int .i64 0, .int .i64 0])] w5342 (by kernel_rfl) ?_
      refine W_store _ _ _ true 3 b5113 0 [.slice none 0 0, .int .i64 0, .int .i64 0] 27 (.agg #[.slice none 0 0, .int .i64 0, .int .i64 0]) 0 [.slice none 0 0, .int .i64 0, .int .i64 0] M5343 (by kernel_rfl) rfl (by kernel_rfl) (by kernel_rfl) (by kernel_rfl) (by kernel_rfl) (by kernel_rfl) (by kernel_rfl) (by kernel_rfl) (by kernel_rfl) ?_
      intro w5348 M5349
      refine W_run 2 [(2, .pointer (some ⟨b5113, 0, none⟩)), (3, .int .i64 0), (4, .bool false)] w5348 (by kernel_rfl) ?_
      refine W_nil ?_
      refine N_then ?_
      refine G_ret ?_
      refine N_then_ret ?_
      obtain rfl := Option.some.inj hm
      refine N_ret [.agg #[.slice none 0 0, .int .i64 0, .int .i64 0], .int .i64 0, .bool false] (RVs_cons (RV_cell (g := true) (k := 3) (b := b5113) (off := 0) (cs := [.slice none 0 0, .int .i64 0, .int .i64 0]) (e := 27) (fr := (0, 0)) (v := .agg #[.slice none 0 0, .int .i64 0, .int .i64 0]) (M5349.blk 0 (b := b5113) (o := .cells ⟨[.slice none 0 0, .int .i64 0, .int .i64 0]⟩ 27 (0, 0)) (by kernel_rfl)) (by kernel_rfl) (by kernel_rfl) (by kernel_rfl)) (RVs_cons (RV_tmp (by kernel_rfl)) (RVs_cons (RV_tmp (by kernel_rfl)) RVs_nil))) ?_
      exact ⟨none, 0, [], rfl, ownS_nil, M5349.pick [100000] (by kernel_rfl)⟩
    · refine G_cond_f (b := o5338) hc5346 (by kernel_rfl) ?_
      refine G_skip ?_
      refine N_then ?_
      refine G_seq ?_
      obtain ⟨y5352, hy5352, hm⟩ := gx_bind hm
      have M5353 : Mem [] w w5342 ([sg5320, sg5325, [(b5332, .cells ⟨[.slice p5318 r5316.1.Items.length c5319, .int .i64 r5316.1.Head, .int .i64 r5316.1.Tail]⟩ 27 (0, 0))]] ++ (List.range 5).map (fun i => ([[], [], [], [], [(b5113, .cells ⟨[.slice none 0 0, .int .i64 0, .int .i64 0]⟩ 27 (0, 0))]] : List Seg).getD i [])) := M5343.pick [1, 2, 3, 300000, 300001, 300002, 300003, 0] (by kernel_rfl)
      refine G_sub [(2, .pointer (some ⟨b5113, 0, none⟩)), (5, .pointer (some ⟨b5332, 0, none⟩)), (6, .slice p5323 r5316.2.1.length c5324), (20, .bool o5338)] (by kernel_rfl) ?_
      refine G_dagL 5 [[], [], [1], [2], [0]] [[], [], [], [], []] [[], [], [], [], []] [[], [], [], [], []] [[], [], [], [], []] [[], [], [], [], []] (fun i => ([[], [], [], [], [(b5113, .cells ⟨[.slice none 0 0, .int .i64 0, .int .i64 0]⟩ 27 (0, 0))]] : List Seg).getD i []) (fun i => ([fun f v s => v = (.agg #[.slice p5318 r5316.1.Items.length c5319, .int .i64 r5316.1.Head, .int .i64 r5316.1.Tail] : Value) ∧ s = [], fun f v s => v = (.slice p5323 r5316.2.1.length c5324 : Value) ∧ s = [], fun f v s => v = (elemP p5323 ((0 : Int).toNat * 1) : Value) ∧ s = [], fun f v s => v = (.int .i64 y5352 : Value) ∧ s = [], fun f v s => v = undef ∧ s = [(b5113, .cells ⟨[.slice p5318 r5316.1.Items.length c5319, .int .i64 r5316.1.Head, .int .i64 r5316.1.Tail]⟩ 27 (0, 0))]] : List ((Nat → Value) → Value → Seg → Prop)).getD i (fun _ _ _ => False)) (fun j f v => ∃ s, (fun i => ([fun f v s => v = (.agg #[.slice p5318 r5316.1.Items.length c5319, .int .i64 r5316.1.Head, .int .i64 r5316.1.Tail] : Value) ∧ s = [], fun f v s => v = (.slice p5323 r5316.2.1.length c5324 : Value) ∧ s = [], fun f v s => v = (elemP p5323 ((0 : Int).toNat * 1) : Value) ∧ s = [], fun f v s => v = (.int .i64 y5352 : Value) ∧ s = [], fun f v s => v = undef ∧ s = [(b5113, .cells ⟨[.slice p5318 r5316.1.Items.length c5319, .int .i64 r5316.1.Head, .int .i64 r5316.1.Tail]⟩ 27 (0, 0))]] : List ((Nat → Value) → Value → Seg → Prop)).getD i (fun _ _ _ => False)) j f v s) [] [3, 4] [4] (fun _ _ _ s h => ⟨s, h⟩) (by kernel_rfl) (by kernel_rfl) M5353 (by kernel_rfl) (by kernel_rfl) (by kernel_rfl) (by kernel_rfl) (allOb_cons ?_ (allOb_cons ?_ (allOb_cons ?_ (allOb_cons ?_ (allOb_cons ?_ allOb_nil))))) ?_
      · intro g5350 f5351
        intro R w5354 M5355
        refine W_val (.agg #[.slice p5318 r5316.1.Items.length c5319, .int .i64 r5316.1.Head, .int .i64 r5316.1.Tail]) w5354 (by kernel_rfl) (E_load (e := 27) (fr := (0, 0)) _ _ true 3 b5332 0 [.slice p5318 r5316.1.Items.length c5319, .int .i64 r5316.1.Head, .int .i64 r5316.1.Tail] (.agg #[.slice p5318 r5316.1.Items.length c5319, .int .i64 r5316.1.Head, .int .i64 r5316.1.Tail]) rfl (by kernel_rfl) (by kernel_rfl) (by kernel_rfl) (M5355.blk 2 (b := b5332) (o := .cells ⟨[.slice p5318 r5316.1.Items.length c5319, .int .i64 r5316.1.Head, .int .i64 r5316.1.Tail]⟩ 27 (0, 0)) (by kernel_rfl))) ?_
        exact W_nil (ob_end (.agg #[.slice p5318 r5316.1.Items.length c5319, .int .i64 r5316.1.Head, .int .i64 r5316.1.Tail]) [] rfl (by kernel_rfl) ⟨by kernel_rfl, rfl⟩ M5355)
      · intro g5350 f5351
        intro R w5358 M5359
        refine W_run 1 [(23, .slice p5323 r5316.2.1.length c5324)] w5358 (by kernel_rfl) ?_
        exact W_nil (ob_end (.slice p5323 r5316.2.1.length c5324) [] rfl (by kernel_rfl) ⟨by kernel_rfl, rfl⟩ M5359)
      · intro g5350 f5351
        intro v1_ hb1_
        obtain ⟨rfl, _⟩ := hb1_
        intro R w5362 M5363
        refine W_val (elemP p5323 ((0 : Int).toNat * 1)) w5362 (by kernel_rfl) (E_index (E := encI) _ _ _ r5316.2.1.length c5324 .i64 0 1 (y := y5352) rfl (by kernel_rfl) (by kernel_rfl) (by kernel_rfl) (ho5326.rd M5363 1 (by kernel_rfl)) rfl hy5352) ?_
        exact W_nil (ob_end (elemP p5323 ((0 : Int).toNat * 1)) [] rfl (by kernel_rfl) ⟨by kernel_rfl, rfl⟩ M5363)
      · intro g5350 f5351
        intro v2_ hb2_
        obtain ⟨rfl, _⟩ := hb2_
        intro R w5366 M5367
        refine W_val (.int .i64 y5352) w5366 (by kernel_rfl) (E_loadE (E := encI) _ _ false 1 0 0 ((0 : Int).toNat * 1) y5352 (.int .i64 y5352) rfl (by kernel_rfl) (by kernel_rfl) (by kernel_rfl) (ho5326.rd M5367 1 (by kernel_rfl)) hy5352 rfl) ?_
        exact W_nil (ob_end (.int .i64 y5352) [] rfl (by kernel_rfl) ⟨by kernel_rfl, rfl⟩ M5367)
      · intro g5350 f5351
        intro v0_ hb0_
        obtain ⟨rfl, _⟩ := hb0_
        intro R w5370 M5371
        refine W_store _ _ _ true 3 b5113 0 [.slice none 0 0, .int .i64 0, .int .i64 0] 27 (.agg #[.slice p5318 r5316.1.Items.length c5319, .int .i64 r5316.1.Head, .int .i64 r5316.1.Tail]) 3 [.slice p5318 r5316.1.Items.length c5319, .int .i64 r5316.1.Head, .int .i64 r5316.1.Tail] M5371 (by kernel_rfl) rfl (by kernel_rfl) (by kernel_rfl) (by kernel_rfl) (by kernel_rfl) (by kernel_rfl) (by kernel_rfl) (by kernel_rfl) (by kernel_rfl) ?_
        intro w5372 M5373
        exact W_nil (ob_none [(b5113, .cells ⟨[.slice p5318 r5316.1.Items.length c5319, .int .i64 r5316.1.Head, .int .i64 r5316.1.Tail]⟩ 27 (0, 0))] rfl ⟨rfl, by kernel_rfl⟩ M5373)
      · intro g5350 f5351
        intro v3_ hb3_
        obtain ⟨rfl, _⟩ := hb3_
        intro v4_ hb4_
        obtain ⟨rfl, hs4_⟩ := hb4_
        replace hs4_ := hs4_.trans (show _ = [(b5113, .cells ⟨[.slice p5318 r5316.1.Items.length c5319, .int .i64 r5316.1.Head, .int .i64 r5316.1.Tail]⟩ 27 (0, 0))] by kernel_rfl)
        intro w5374 M5375
        have M5376 : Mem [] w w5374 [sg5320, sg5325, [(b5332, .cells ⟨[.slice p5318 r5316.1.Items.length c5319, .int .i64 r5316.1.Head, .int .i64 r5316.1.Tail]⟩ 27 (0, 0))], (g5350 4)] := M5375
        rw [hs4_] at M5376
        refine W_run 2 [(2, .pointer (some ⟨b5113, 0, none⟩)), (3, .int .i64 y5352), (4, .bool true)] w5374 (by kernel_rfl) ?_
        refine W_nil ?_
        refine N_then ?_
        refine G_ret ?_
        obtain rfl := Option.some.inj hm
        refine N_ret [.agg #[.slice p5318 r5316.1.Items.length c5319, .int .i64 r5316.1.Head, .int .i64 r5316.1.Tail], .int .i64 y5352, .bool true] (RVs_cons (RV_cell (g := true) (k := 3) (b := b5113) (off := 0) (cs := [.slice p5318 r5316.1.Items.length c5319, .int .i64 r5316.1.Head, .int .i64 r5316.1.Tail]) (e := 27) (fr := (0, 0)) (v := .agg #[.slice p5318 r5316.1.Items.length c5319, .int .i64 r5316.1.Head, .int .i64 r5316.1.Tail]) (M5376.blk 3 (b := b5113) (o := .cells ⟨[.slice p5318 r5316.1.Items.length c5319, .int .i64 r5316.1.Head, .int .i64 r5316.1.Tail]⟩ 27 (0, 0)) (by kernel_rfl)) (by kernel_rfl) (by kernel_rfl) (by kernel_rfl)) (RVs_cons (RV_tmp (by kernel_rfl)) (RVs_cons (RV_tmp (by kernel_rfl)) RVs_nil))) ?_
        exact ⟨p5318, c5319, sg5320, rfl, ho5321, M5376.pick [0] (by kernel_rfl)⟩
theorem c_s_TakeWord (w : World) (x5393 : Ring) (p5395 : Option Addr) (c5396 : Nat) (h5397 : rdS encI w x5393.Items p5395 c5396) {r : Ring × Int × Bool} (hm : M.s_TakeWord x5393 = some r) :
    Calls Try.prog 32 #[.agg #[.slice p5395 x5393.Items.length c5396, .int .i64 x5393.Head, .int .i64 x5393.Tail]] w fun e w' => ∃ (p5399 : Option Addr) (c5400 : Nat) (sg5401 : Seg), e = .returned (.tuple #[.agg #[.slice p5399 r.1.Items.length c5400, .int .i64 r.1.Head, .int .i64 r.1.Tail], .int .i64 r.2.1, .bool r.2.2]) ∧ ownS encI r.1.Items p5399 c5400 sg5401 ∧ Mem [] w w' [sg5401] := by
  unfold M.s_TakeWord at hm
  refine C_enter Try.func32 rfl (by kernel_rfl) ?_
  have M0 := Mem.refl [] w
  refine G_seq ?_
  refine G_region ?_
  refine W_new (fun b => .pointer (some ⟨b, 0, none⟩)) (.cells ⟨[.slice p5395 x5393.Items.length c5396, .int .i64 x5393.Head, .int .i64 x5393.Tail]⟩ 27 (0, 0)) M0 rfl (by kernel_rfl) (by kernel_rfl) ?_
  intro b5403 w5404 M5405
  refine W_new (fun b => .pointer (some ⟨b, 0, none⟩)) (.cells ⟨[.slice none 0 0, .int .i64 0, .int .i64 0]⟩ 27 (0, 0)) M5405 rfl (by kernel_rfl) (by kernel_rfl) ?_
  intro b5408 w5409 M5410
  refine W_run 2 [(1, .pointer (some ⟨b5403, 0, none⟩)), (2, .pointer (some ⟨b5408, 0, none⟩))] w5409 (by kernel_rfl) ?_
  refine W_nil ?_
  refine N_then ?_
  refine G_seq ?_
  refine G_seq ?_
  obtain ⟨o5420, ho5421, hm5422⟩ := gx_bind hm
  refine G_meet (fun a w' => Mem [] w w' [[(b5403, .cells ⟨[.slice p5395 x5393.Items.length c5396, .int .i64 x5393.Head, .int .i64 x5393.Tail]⟩ 27 (0, 0))], [(b5408, .cells ⟨[.slice none 0 0, .int .i64 0, .int .i64 0]⟩ 27 (0, 0))]] ∧ Sat Try.f32.ntmps [(1, .pointer (some ⟨b5403, 0, none⟩)), (2, .pointer (some ⟨b5408, 0, none⟩)), (14, .bool o5420)] a) ?_ ?_
  · have hm := ho5421
    refine G_region ?_
    refine W_val (.agg #[.slice p5395 x5393.Items.length c5396, .int .i64 x5393.Head, .int .i64 x5393.Tail]) w5409 (by kernel_rfl) (E_load (e := 27) (fr := (0, 0)) _ _ true 3 b5403 0 [.slice p5395 x5393.Items.length c5396, .int .i64 x5393.Head, .int .i64 x5393.Tail] (.agg #[.slice p5395 x5393.Items.length c5396, .int .i64 x5393.Head, .int .i64 x5393.Tail]) rfl (by kernel_rfl) (by kernel_rfl) (by kernel_rfl) (M5410.blk 0 (b := b5403) (o := .cells ⟨[.slice p5395 x5393.Items.length c5396, .int .i64 x5393.Head, .int .i64 x5393.Tail]⟩ 27 (0, 0)) (by kernel_rfl))) ?_
    obtain ⟨r5423, hr5423, hm⟩ := gx_bind hm
    refine W_call 58 #[.agg #[.slice p5395 x5393.Items.length c5396, .int .i64 x5393.Head, .int .i64 x5393.Tail]] (by kernel_rfl) (by kernel_rfl) ?_
    refine (c_s_l20Good w5409 x5393 p5395 c5396 (h5397.mem0 M5410) hr5423).mono ?_
    rintro e_ w5424 ⟨rfl, K5425⟩
    have M5426 := M5410.call0 K5425
    refine ⟨_, rfl, ?_⟩
    refine W_run 2 [(1, .pointer (some ⟨b5403, 0, none⟩)), (2, .pointer (some ⟨b5408, 0, none⟩)), (10, .bool (!r5423))] w5424 (by kernel_rfl) ?_
    rcases gx_bif hm with ⟨hc5427, hm⟩ | ⟨hc5427, hm⟩
    · refine W_known 10 true (by kernel_rfl) hc5427 ?_
      refine W_run 4 [(1, .pointer (some ⟨b5403, 0, none⟩)), (2, .pointer (some ⟨b5408, 0, none⟩)), (14, .bool true)] w5424 (by kernel_rfl) ?_
      refine W_nil ?_
      obtain rfl := Option.some.inj hm
      exact N_meet fun a ha => ⟨M5426.pick [0, 1] (by kernel_rfl), ha.sub (by kernel_rfl)⟩
    · refine W_known 10 false (by kernel_rfl) hc5427 ?_
      refine W_val (.agg #[.slice p5395 x5393.Items.length c5396, .int .i64 x5393.Head, .int .i64 x5393.Tail]) w5424 (by kernel_rfl) (E_load (e := 27) (fr := (0, 0)) _ _ true 3 b5403 0 [.slice p5395 x5393.Items.length c5396, .int .i64 x5393.Head, .int .i64 x5393.Tail] (.agg #[.slice p5395 x5393.Items.length c5396, .int .i64 x5393.Head, .int .i64 x5393.Tail]) rfl (by kernel_rfl) (by kernel_rfl) (by kernel_rfl) (M5426.blk 0 (b := b5403) (o := .cells ⟨[.slice p5395 x5393.Items.length c5396, .int .i64 x5393.Head, .int .i64 x5393.Tail]⟩ 27 (0, 0)) (by kernel_rfl))) ?_
      obtain ⟨r5428, hr5428, hm⟩ := gx_bind hm
      refine W_call 63 #[.agg #[.slice p5395 x5393.Items.length c5396, .int .i64 x5393.Head, .int .i64 x5393.Tail]] (by kernel_rfl) (by kernel_rfl) ?_
      refine (c_s_l20Count w5424 x5393 p5395 c5396 (h5397.mem0 M5426) hr5428).mono ?_
      rintro e_ w5429 ⟨rfl, K5430⟩
      have M5431 := M5426.call0 K5430
      refine ⟨_, rfl, ?_⟩
      refine W_run 2 [(1, .pointer (some ⟨b5403, 0, none⟩)), (2, .pointer (some ⟨b5408, 0, none⟩)), (14, .bool (r5428 == 0))] w5429 (by kernel_rfl) ?_
      refine W_nil ?_
      obtain rfl := Option.some.inj hm
      exact N_meet fun a ha => ⟨M5431.pick [0, 1] (by kernel_rfl), ha.sub (by kernel_rfl)⟩
  · intro a5434 w5432 ⟨M5433, hS5435⟩
    refine N_use hS5435 ?_
    have hm := hm5422
    refine N_then ?_
    rcases gx_bif hm with ⟨hc5436, hm⟩ | ⟨hc5436, hm⟩
    · refine G_cond_t (b := o5420) hc5436 (by kernel_rfl) ?_
      refine G_seq ?_
      refine G_region ?_
      refine W_run 1 [(2, .pointer (some ⟨b5408, 0, none⟩)), (15, .agg #[.slice none 0 0, .int .i64 0, .int .i64 0])] w5432 (by kernel_rfl) ?_
      refine W_store _ _ _ true 3 b5408 0 [.slice none 0 0, .int .i64 0, .int .i64 0] 27 (.agg #[.slice none 0 0, .int .i64 0, .int .i64 0]) 1 [.slice none 0 0, .int .i64 0, .int .i64 0] M5433 (by kernel_rfl) rfl (by kernel_rfl) (by kernel_rfl) (by kernel_rfl) (by kernel_rfl) (by kernel_rfl) (by kernel_rfl) (by kernel_rfl) (by kernel_rfl) ?_
      intro w5438 M5439
      refine W_run 2 [(2, .pointer (some ⟨b5408, 0, none⟩)), (3, .int .i64 0), (4, .bool false)] w5438 (by kernel_rfl) ?_
      refine W_nil ?_
      refine N_then ?_
      refine G_ret ?_
      refine N_then_ret ?_
      obtain rfl := Option.some.inj hm
      refine N_ret [.agg #[.slice none 0 0, .int .i64 0, .int .i64 0], .int .i64 0, .bool false] (RVs_cons (RV_cell (g := true) (k := 3) (b := b5408) (off := 0) (cs := [.slice none 0 0, .int .i64 0, .int .i64 0]) (e := 27) (fr := (0, 0)) (v := .agg #[.slice none 0 0, .int .i64 0, .int .i64 0]) (M5439.blk 1 (b := b5408) (o := .cells ⟨[.slice none 0 0, .int .i64 0, .int .i64 0]⟩ 27 (0, 0)) (by kernel_rfl)) (by kernel_rfl) (by kernel_rfl) (by kernel_rfl)) (RVs_cons (RV_tmp (by kernel_rfl)) (RVs_cons (RV_tmp (by kernel_rfl)) RVs_nil))) ?_
      exact ⟨none, 0, [], rfl, ownS_nil, M5439.pick [100000] (by kernel_rfl)⟩
    · refine G_cond_f (b := o5420) hc5436 (by kernel_rfl) ?_
      refine G_skip ?_
      refine N_then ?_
      refine G_seq ?_
      refine G_region ?_
      refine W_val (.agg #[.slice p5395 x5393.Items.length c5396, .int .i64 x5393.Head, .int .i64 x5393.Tail]) w5432 (by kernel_rfl) (E_load (e := 27) (fr := (0, 0)) _ _ true 3 b5403 0 [.slice p5395 x5393.Items.length c5396, .int .i64 x5393.Head, .int .i64 x5393.Tail] (.agg #[.slice p5395 x5393.Items.length c5396, .int .i64 x5393.Head, .int .i64 x5393.Tail]) rfl (by kernel_rfl) (by kernel_rfl) (by kernel_rfl) (M5433.blk 0 (b := b5403) (o := .cells ⟨[.slice p5395 x5393.Items.length c5396, .int .i64 x5393.Head, .int .i64 x5393.Tail]⟩ 27 (0, 0)) (by kernel_rfl))) ?_
      obtain ⟨r5440, hr5440, hm⟩ := gx_bind hm
      refine W_call 64 #[.agg #[.slice p5395 x5393.Items.length c5396, .int .i64 x5393.Head, .int .i64 x5393.Tail]] (by kernel_rfl) (by kernel_rfl) ?_
      refine (c_s_l20Take w5432 x5393 p5395 c5396 (h5397.mem0 M5433) hr5440).mono ?_
      rintro e_ w5446 ⟨p5442, c5443, sg5444, rfl, ho5445, K5447⟩
      have M5448 := M5433.call K5447
      refine ⟨_, rfl, ?_⟩
      refine W_run 3 [(2, .pointer (some ⟨b5408, 0, none⟩)), (19, .agg #[.slice p5442 r5440.1.Items.length c5443, .int .i64 r5440.1.Head, .int .i64 r5440.1.Tail]), (20, .int .i64 r5440.2)] w5446 (by kernel_rfl) ?_
      refine W_new (fun b => .pointer (some ⟨b, 0, none⟩)) (.cells ⟨[.slice none 0 0, .int .i64 0, .int .i64 0]⟩ 27 (0, 0)) M5448 rfl (by kernel_rfl) (by kernel_rfl) ?_
      intro b5451 w5452 M5453
      refine W_store _ _ _ true 3 b5451 0 [.slice none 0 0, .int .i64 0, .int .i64 0] 27 (.agg #[.slice p5442 r5440.1.Items.length c5443, .int .i64 r5440.1.Head, .int .i64 r5440.1.Tail]) 3 [.slice p5442 r5440.1.Items.length c5443, .int .i64 r5440.1.Head, .int .i64 r5440.1.Tail] M5453 (by kernel_rfl) rfl (by kernel_rfl) (by kernel_rfl) (by kernel_rfl) (by kernel_rfl) (by kernel_rfl) (by kernel_rfl) (by kernel_rfl) (by kernel_rfl) ?_
      intro w5454 M5455
      refine W_run 1 [(2, .pointer (some ⟨b5408, 0, none⟩)), (5, .pointer (some ⟨b5451, 0, none⟩)), (6, .int .i64 r5440.2)] w5454 (by kernel_rfl) ?_
      refine W_nil ?_
      refine N_then ?_
      refine G_seq ?_
      refine G_region ?_
      refine W_val (.agg #[.slice p5442 r5440.1.Items.length c5443, .int .i64 r5440.1.Head, .int .i64 r5440.1.Tail]) w5454 (by kernel_rfl) (E_load (e := 27) (fr := (0, 0)) _ _ true 3 b5451 0 [.slice p5442 r5440.1.Items.length c5443, .int .i64 r5440.1.Head, .int .i64 r5440.1.Tail] (.agg #[.slice p5442 r5440.1.Items.length c5443, .int .i64 r5440.1.Head, .int .i64 r5440.1.Tail]) rfl (by kernel_rfl) (by kernel_rfl) (by kernel_rfl) (M5455.blk 3 (b := b5451) (o := .cells ⟨[.slice p5442 r5440.1.Items.length c5443, .int .i64 r5440.1.Head, .int .i64 r5440.1.Tail]⟩ 27 (0, 0)) (by kernel_rfl))) ?_
      refine W_run 1 [(2, .pointer (some ⟨b5408, 0, none⟩)), (21, .agg #[.slice p5442 r5440.1.Items.length c5443, .int .i64 r5440.1.Head, .int .i64 r5440.1.Tail]), (22, .int .i64 r5440.2)] w5454 (by kernel_rfl) ?_
      refine W_store _ _ _ true 3 b5408 0 [.slice none 0 0, .int .i64 0, .int .i64 0] 27 (.agg #[.slice p5442 r5440.1.Items.length c5443, .int .i64 r5440.1.Head, .int .i64 r5440.1.Tail]) 1 [.slice p5442 r5440.1.Items.length c5443, .int .i64 r5440.1.Head, .int .i64 r5440.1.Tail] M5455 (by kernel_rfl) rfl (by kernel_rfl) (by kernel_rfl) (by kernel_rfl) (by kernel_rfl) (by kernel_rfl) (by kernel_rfl) (by kernel_rfl) (by kernel_rfl) ?_
      intro w5456 M5457
      refine W_run 2 [(2, .pointer (some ⟨b5408, 0, none⟩)), (3, .int .i64 r5440.2), (4, .bool true)] w5456 (by kernel_rfl) ?_
      refine W_nil ?_
      refine N_then ?_
      refine G_ret ?_
      obtain rfl := Option.some.inj hm
      refine N_ret [.agg #[.slice p5442 r5440.1.Items.length c5443, .int .i64 r5440.1.Head, .int .i64 r5440.1.Tail], .int .i64 r5440.2, .bool true] (RVs_cons (RV_cell (g := true) (k := 3) (b := b5408) (off := 0) (cs := [.slice p5442 r5440.1.Items.length c5443, .int .i64 r5440.1.Head, .int .i64 r5440.1.Tail]) (e := 27) (fr := (0, 0)) (v := .agg #[.slice p5442 r5440.1.Items.length c5443, .int .i64 r5440.1.Head, .int .i64 r5440.1.Tail]) (M5457.blk 1 (b := b5408) (o := .cells ⟨[.slice p5442 r5440.1.Items.length c5443, .int .i64 r5440.1.Head, .int .i64 r5440.1.Tail]⟩ 27 (0, 0)) (by kernel_rfl)) (by kernel_rfl) (by kernel_rfl) (by kernel_rfl)) (RVs_cons (RV_tmp (by kernel_rfl)) (RVs_cons (RV_tmp (by kernel_rfl)) RVs_nil))) ?_
      exact ⟨p5442, c5443, sg5444, rfl, ho5445, M5457.pick [2] (by kernel_rfl)⟩
theorem c_s_DrawPutWords (w : World) (x5620 : List Int) (p5622 : Option Addr) (c5623 : Nat) (h5624 : rdS encU8 w x5620 p5622 c5623) {r : Ring × (List Int)} (hm : M.s_DrawPutWords x5620 = some r) :
    Calls Try.prog 50 #[.slice p5622 x5620.length c5623] w fun e w' => ∃ (p5626 : Option Addr) (c5627 : Nat) (sg5628 : Seg), ∃ (p5630 : Option Addr) (c5631 : Nat) (sg5632 : Seg), e = .returned (.tuple #[.agg #[.slice p5626 r.1.Items.length c5627, .int .i64 r.1.Head, .int .i64 r.1.Tail], .slice p5630 r.2.length c5631]) ∧ ownS encI r.1.Items p5626 c5627 sg5628 ∧ ownS encI r.2 p5630 c5631 sg5632 ∧ Mem [] w w' [sg5628, sg5632] := by
  unfold M.s_DrawPutWords at hm
  refine C_enter Try.func50 rfl (by kernel_rfl) ?_
  have M0 := Mem.refl [] w
  refine G_seq ?_
  refine G_region ?_
  refine W_new (fun b => .pointer (some ⟨b, 0, none⟩)) (.cells ⟨[.slice none 0 0, .int .i64 0, .int .i64 0]⟩ 27 (0, 0)) M0 rfl (by kernel_rfl) (by kernel_rfl) ?_
  intro b5635 w5636 M5637
  refine W_run 1 [(0, .slice p5622 x5620.length c5623), (2, .pointer (some ⟨b5635, 0, none⟩))] w5636 (by kernel_rfl) ?_
  refine W_nil ?_
  refine N_then ?_
  refine G_seq ?_
  refine G_region ?_
  refine W_run 2 [(2, .pointer (some ⟨b5635, 0, none⟩)), (9, .agg #[.slice p5622 x5620.length c5623, .int .i64 0, .int .u64 0])] w5636 (by kernel_rfl) ?_
  refine W_new (fun b => .pointer (some ⟨b, 0, none⟩)) (.cells ⟨[.slice p5622 x5620.length c5623, .int .i64 0, .int .u64 0]⟩ 73 (0, 0)) M5637 rfl (by kernel_rfl) (by kernel_rfl) ?_
  intro b5641 w5642 M5643
  refine W_run 1 [(2, .pointer (some ⟨b5635, 0, none⟩)), (4, .pointer (some ⟨b5641, 0, none⟩))] w5642 (by kernel_rfl) ?_
  refine W_nil ?_
  refine N_then ?_
  refine G_seq ?_
  refine G_region ?_
  refine W_run 1 [(2, .pointer (some ⟨b5635, 0, none⟩)), (4, .pointer (some ⟨b5641, 0, none⟩)), (11, .pointer (some ⟨b5641, 0, none⟩))] w5642 (by kernel_rfl) ?_
  obtain ⟨r5644, hr5644, hm⟩ := gx_bind hm
  refine W_call 74 #[.pointer (some ⟨b5641, 0, none⟩)] (by kernel_rfl) (by kernel_rfl) ?_
  refine (c_s_l1Cur_ring w5642 (⟨x5620, 0, 0⟩ : l1Cur) p5622 c5623 (h5624.mem0 M5643) b5641 (M5643.hasPick [1]) (M5643.nodupPick [1] (by kernel_rfl)) (apartX.old0 h5624 M5643 [1]) hr5644).mono ?_
  rintro e_ w5650 ⟨p5646, c5647, sg5648, rfl, ho5649, K5651⟩
  have M5652 := M5643.callF' [1] [0] (by kernel_rfl) K5651
  refine ⟨_, rfl, ?_⟩
  refine W_new (fun b => .pointer (some ⟨b, 0, none⟩)) (.cells ⟨[.slice none 0 0, .int .i64 0, .int .i64 0]⟩ 27 (0, 0)) M5652 rfl (by kernel_rfl) (by kernel_rfl) ?_
  intro b5655 w5656 M5657
  refine W_store _ _ _ true 3 b5655 0 [.slice none 0 0, .int .i64 0, .int .i64 0] 27 (.agg #[.slice p5646 r5644.1.Items.length c5647, .int .i64 r5644.1.Head, .int .i64 r5644.1.Tail]) 3 [.slice p5646 r5644.1.Items.length c5647, .int .i64 r5644.1.Head, .int .i64 r5644.1.Tail] M5657 (by kernel_rfl) rfl (by kernel_rfl) (by kernel_rfl) (by kernel_rfl) (by kernel_rfl) (by kernel_rfl) (by kernel_rfl) (by kernel_rfl) (by kernel_rfl) ?_
  intro w5658 M5659
  refine W_nil ?_
  refine N_then ?_
  refine G_seq ?_
  refine G_region ?_
  refine W_lit (E := encI) ([] : List Int) 0 [] 3 M5659 (by kernel_rfl) (by kernel_rfl) (by kernel_rfl) (by kernel_rfl) (by kernel_rfl) ?_
  intro p5660 c5661 sg5662 w5663 ho5664 M5665
  refine W_run 1 [(2, .pointer (some ⟨b5635, 0, none⟩)), (4, .pointer (some ⟨b5641, 0, none⟩)), (5, .pointer (some ⟨b5655, 0, none⟩)), (6, .slice p5660 ([] : List Int).length c5661)] w5663 (by kernel_rfl) ?_
  refine W_nil ?_
  refine N_then ?_
  refine G_seq ?_
  refine G_seq ?_
  refine G_region ?_
  refine W_run 1 [(2, .pointer (some ⟨b5635, 0, none⟩)), (4, .pointer (some ⟨b5641, 0, none⟩)), (5, .pointer (some ⟨b5655, 0, none⟩)), (6, .slice p5660 ([] : List Int).length c5661), (14, .pointer (some ⟨b5641, 0, none⟩))] w5663 (by kernel_rfl) ?_
  obtain ⟨r5667, hr5667, hm⟩ := gx_bind hm
  refine W_call 73 #[.pointer (some ⟨b5641, 0, none⟩), .int .i64 8] (by kernel_rfl) (by kernel_rfl) ?_
  refine (c_s_l1Cur_pick w5663 (⟨x5620, r5644.2.1, r5644.2.2⟩ : l1Cur) p5622 c5623 (h5624.mem0 M5665) b5641 8 (M5665.hasPick [1]) (M5665.nodupPick [1] (by kernel_rfl)) (apartX.old0 h5624 M5665 [1]) hr5667).mono ?_
  rintro e_ w5668 ⟨rfl, K5669⟩
  have M5670 := M5665.callF' [1] [0, 2, 3, 4] (by kernel_rfl) K5669
  refine ⟨_, rfl, ?_⟩
  refine W_run 1 [(2, .pointer (some ⟨b5635, 0, none⟩)), (4, .pointer (some ⟨b5641, 0, none⟩)), (5, .pointer (some ⟨b5655, 0, none⟩)), (6, .slice p5660 ([] : List Int).length c5661), (7, .int .i64 r5667.1)] w5668 (by kernel_rfl) ?_
  refine W_nil ?_
  refine N_then ?_
  obtain ⟨out5723, hw5724, hmo5725⟩ := gx_bind hm
  refine G_meet (fun a w' => ∃ (p5732 : Option Addr), ∃ (c5733 : Nat), ∃ (sg5734 : Seg), ownS encI out5723 p5732 c5733 sg5734 ∧ Mem [] w w' [[(b5635, .cells ⟨[.slice none 0 0, .int .i64 0, .int .i64 0]⟩ 27 (0, 0))], sg5648, [(b5655, .cells ⟨[.slice p5646 r5644.1.Items.length c5647, .int .i64 r5644.1.Head, .int .i64 r5644.1.Tail]⟩ 27 (0, 0))], sg5734] ∧ Sat Try.f50.ntmps [(2, .pointer (some ⟨b5635, 0, none⟩)), (5, .pointer (some ⟨b5655, 0, none⟩)), (6, .slice p5732 out5723.length c5733)] a) ?_ ?_
  · refine G_block ?_
    refine G_while (σ := List Int × Int × Int × Int) (ρ := List Int) (fun s5716 a w' => ∃ (p5726 : Option Addr), ∃ (c5727 : Nat), ∃ (sg5728 : Seg), ownS encI s5716.1 p5726 c5727 sg5728 ∧ Mem [] w w' [[(b5635, .cells ⟨[.slice none 0 0, .int .i64 0, .int .i64 0]⟩ 27 (0, 0))], sg5648, [(b5655, .cells ⟨[.slice p5646 r5644.1.Items.length c5647, .int .i64 r5644.1.Head, .int .i64 r5644.1.Tail]⟩ 27 (0, 0))], [(b5641, .cells ⟨[.slice p5622 x5620.length c5623, .int .i64 s5716.2.2.1, .int .u64 s5716.2.2.2]⟩ 73 (0, 0))], sg5728] ∧ Sat Try.f50.ntmps [(2, .pointer (some ⟨b5635, 0, none⟩)), (4, .pointer (some ⟨b5641, 0, none⟩)), (5, .pointer (some ⟨b5655, 0, none⟩)), (6, .slice p5726 s5716.1.length c5727), (7, .int .i64 s5716.2.1)] a) hw5724 (fun a ha => ⟨p5660, c5661, sg5662, ho5664, M5670.pick [0, 1, 2, 4, 3] (by kernel_rfl), ha.sub (by kernel_rfl)⟩) ?_
    clear hm
    intro s5716 x5717 hm hout5718 a5719 w5720 ⟨p5726, c5727, sg5728, ho5729, M5721, hS5722⟩
    refine G_use hS5722 ?_
    refine G_seq ?_
    refine G_seq ?_
    refine G_region ?_
    refine W_run 2 [(2, .pointer (some ⟨b5635, 0, none⟩)), (4, .pointer (some ⟨b5641, 0, none⟩)), (5, .pointer (some ⟨b5655, 0, none⟩)), (6, .slice p5726 s5716.1.length c5727), (7, .int .i64 s5716.2.1), (17, .bool (decide (s5716.2.1 > 0)))] w5720 (by kernel_rfl) ?_
    refine W_nil ?_
    refine N_then ?_
    rcases gx_bif hm with ⟨hc5737, hm⟩ | ⟨hc5737, hm⟩
    · refine G_cond_t (b := (decide (s5716.2.1 > 0))) hc5737 (by kernel_rfl) ?_
      refine G_skip ?_
      refine N_then ?_
      refine G_seq ?_
      refine G_block ?_
      refine G_region ?_
      refine W_run 2 [(2, .pointer (some ⟨b5635, 0, none⟩)), (4, .pointer (some ⟨b5641, 0, none⟩)), (5, .pointer (some ⟨b5655, 0, none⟩)), (6, .slice p5726 s5716.1.length c5727), (7, .int .i64 s5716.2.1), (20, .slice p5726 s5716.1.length c5727), (21, .pointer (some ⟨b5641, 0, none⟩))] w5720 (by kernel_rfl) ?_
      obtain ⟨r5738, hr5738, hm⟩ := gx_bind hm
      refine W_call 70 #[.pointer (some ⟨b5641, 0, none⟩)] (by kernel_rfl) (by kernel_rfl) ?_
      refine (c_s_l1Cur_word16 w5720 (⟨x5620, s5716.2.2.1, s5716.2.2.2⟩ : l1Cur) p5622 c5623 (h5624.mem0 M5721) b5641 (M5721.hasPick [3]) (M5721.nodupPick [3] (by kernel_rfl)) (apartX.old0 h5624 M5721 [3]) hr5738).mono ?_
      rintro e_ w5739 ⟨rfl, K5740⟩
      have M5741 := M5721.callF' [3] [0, 1, 2, 4] (by kernel_rfl) K5740
      refine ⟨_, rfl, ?_⟩
      refine W_lit (E := encI) [r5738.1] 1 [.int .i64 r5738.1] 3 M5741 (by kernel_rfl) (by kernel_rfl) (by kernel_rfl) (by kernel_rfl) (by kernel_rfl) ?_
      intro p5742 c5743 sg5744 w5745 ho5746 M5747
      obtain ⟨ap5749, hap5749, hm⟩ := gx_bind hm
      refine W_append (E := encI) _ _ _ 8 [.int .i64 0] 3 c5743 M5747 ho5729 (by kernel_rfl) (by kernel_rfl) (by kernel_rfl) rfl (by kernel_rfl) (by kernel_rfl) (by kernel_rfl) (by kernel_rfl) (by kernel_rfl) (by kernel_rfl) (ho5746.rd M5747 5 (by kernel_rfl)) hap5749 ?_
      intro p5750 c5751 sg5752 w5753 ho5754 M5755
      refine W_run 1 [(2, .pointer (some ⟨b5635, 0, none⟩)), (4, .pointer (some ⟨b5641, 0, none⟩)), (5, .pointer (some ⟨b5655, 0, none⟩)), (6, .slice p5750 ap5749.length c5751), (7, .int .i64 s5716.2.1)] w5753 (by kernel_rfl) ?_
      refine W_nil ?_
      refine N_block ?_
      refine N_then ?_
      refine G_region ?_
      refine W_run 3 [(2, .pointer (some ⟨b5635, 0, none⟩)), (4, .pointer (some ⟨b5641, 0, none⟩)), (5, .pointer (some ⟨b5655, 0, none⟩)), (6, .slice p5750 ap5749.length c5751), (7, .int .i64 (w64 (s5716.2.1 - 1)))] w5753 (by kernel_rfl) ?_
      refine W_nil ?_
      obtain rfl := Option.some.inj hm
      exact N_loop fun a ha => ⟨_, rfl, p5750, c5751, sg5752, ho5754, M5755.pick [0, 1, 2, 4, 3] (by kernel_rfl), ha.sub (by kernel_rfl)⟩
    · refine G_cond_f (b := (decide (s5716.2.1 > 0))) hc5737 (by kernel_rfl) ?_
      refine G_exit ?_
      refine N_then_exit ?_
      refine N_then_exit ?_
      refine N_block_eq ?_
      obtain rfl := Option.some.inj hm
      obtain rfl := hout5718 _ rfl
      exact N_meet fun a ha => ⟨p5726, c5727, sg5728, ho5729, M5721.pick [0, 1, 2, 4] (by kernel_rfl), ha.sub (by kernel_rfl)⟩
  · intro a5757 w5758 ⟨p5732, c5733, sg5734, ho5735, M5759, hS5760⟩
    refine N_use hS5760 ?_
    have hm := hmo5725
    refine N_then ?_
    refine G_seq ?_
    refine G_region ?_
    refine W_val (.agg #[.slice p5646 r5644.1.Items.length c5647, .int .i64 r5644.1.Head, .int .i64 r5644.1.Tail]) w5758 (by kernel_rfl) (E_load (e := 27) (fr := (0, 0)) _ _ true 3 b5655 0 [.slice p5646 r5644.1.Items.length c5647, .int .i64 r5644.1.Head, .int .i64 r5644.1.Tail] (.agg #[.slice p5646 r5644.1.Items.length c5647, .int .i64 r5644.1.Head, .int .i64 r5644.1.Tail]) rfl (by kernel_rfl) (by kernel_rfl) (by kernel_rfl) (M5759.blk 2 (b := b5655) (o := .cells ⟨[.slice p5646 r5644.1.Items.length c5647, .int .i64 r5644.1.Head, .int .i64 r5644.1.Tail]⟩ 27 (0, 0)) (by kernel_rfl))) ?_
    refine W_run 1 [(2, .pointer (some ⟨b5635, 0, none⟩)), (25, .agg #[.slice p5646 r5644.1.Items.length c5647, .int .i64 r5644.1.Head, .int .i64 r5644.1.Tail]), (26, .slice p5732 out5723.length c5733)] w5758 (by kernel_rfl) ?_
    refine W_store _ _ _ true 3 b5635 0 [.slice none 0 0, .int .i64 0, .int .i64 0] 27 (.agg #[.slice p5646 r5644.1.Items.length c5647, .int .i64 r5644.1.Head, .int .i64 r5644.1.Tail]) 0 [.slice p5646 r5644.1.Items.length c5647, .int .i64 r5644.1.Head, .int .i64 r5644.1.Tail] M5759 (by kernel_rfl) rfl (by kernel_rfl) (by kernel_rfl) (by kernel_rfl) (by kernel_rfl) (by kernel_rfl) (by kernel_rfl) (by kernel_rfl) (by kernel_rfl) ?_
    intro w5761 M5762
    refine W_run 1 [(2, .pointer (some ⟨b5635, 0, none⟩)), (3, .slice p5732 out5723.length c5733)] w5761 (by kernel_rfl) ?_
    refine W_nil ?_
    refine N_then ?_
    refine G_ret ?_
    obtain rfl := Option.some.inj hm
    refine N_ret [.agg #[.slice p5646 r5644.1.Items.length c5647, .int .i64 r5644.1.Head, .int .i64 r5644.1.Tail], .slice p5732 out5723.length c5733] (RVs_cons (RV_cell (g := true) (k := 3) (b := b5635) (off := 0) (cs := [.slice p5646 r5644.1.Items.length c5647, .int .i64 r5644.1.Head, .int .i64 r5644.1.Tail]) (e := 27) (fr := (0, 0)) (v := .agg #[.slice p5646 r5644.1.Items.length c5647, .int .i64 r5644.1.Head, .int .i64 r5644.1.Tail]) (M5762.blk 0 (b := b5635) (o := .cells ⟨[.slice p5646 r5644.1.Items.length c5647, .int .i64 r5644.1.Head, .int .i64 r5644.1.Tail]⟩ 27 (0, 0)) (by kernel_rfl)) (by kernel_rfl) (by kernel_rfl) (by kernel_rfl)) (RVs_cons (RV_tmp (by kernel_rfl)) RVs_nil)) ?_
    exact ⟨p5646, c5647, sg5648, p5732, c5733, sg5734, rfl, ho5649, ho5735, M5762.pick [1, 3] (by kernel_rfl)⟩
theorem c_s_PutWords (w : World) (x5800 : Ring) (p5802 : Option Addr) (c5803 : Nat) (h5804 : rdS encI w x5800.Items p5802 c5803) (x5805 : List Int) (p5807 : Option Addr) (c5808 : Nat) (h5809 : rdS encI w x5805 p5807 c5808) {r : Ring × Int × Bool} (hm : M.s_PutWords x5800 x5805 = some r) :
    Calls Try.prog 38 #[.agg #[.slice p5802 x5800.Items.length c5803, .int .i64 x5800.Head, .int .i64 x5800.Tail], .slice p5807 x5805.length c5808] w fun e w' => ∃ (p5811 : Option Addr) (c5812 : Nat) (sg5813 : Seg), e = .returned (.tuple #[.agg #[.slice p5811 r.1.Items.length c5812, .int .i64 r.1.Head, .int .i64 r.1.Tail], .int .i64 r.2.1, .bool r.2.2]) ∧ ownS encI r.1.Items p5811 c5812 sg5813 ∧ Mem [] w w' [sg5813] := by
  unfold M.s_PutWords at hm
  refine C_enter Try.func38 rfl (by kernel_rfl) ?_
  have M0 := Mem.refl [] w
  refine G_seq ?_
  refine G_region ?_
  refine W_new (fun b => .pointer (some ⟨b, 0, none⟩)) (.cells ⟨[.slice p5802 x5800.Items.length c5803, .int .i64 x5800.Head, .int .i64 x5800.Tail]⟩ 27 (0, 0)) M0 rfl (by kernel_rfl) (by kernel_rfl) ?_
  intro b5815 w5816 M5817
  refine W_new (fun b => .pointer (some ⟨b, 0, none⟩)) (.cells ⟨[.slice none 0 0, .int .i64 0, .int .i64 0]⟩ 27 (0, 0)) M5817 rfl (by kernel_rfl) (by kernel_rfl) ?_
  intro b5820 w5821 M5822
  refine W_run 2 [(1, .slice p5807 x5805.length c5808), (2, .pointer (some ⟨b5815, 0, none⟩)), (4, .pointer (some ⟨b5820, 0, none⟩))] w5821 (by kernel_rfl) ?_
  refine W_nil ?_
  refine N_then ?_
  refine G_seq ?_
  refine G_seq ?_
  refine G_region ?_
  refine W_val (.agg #[.slice p5802 x5800.Items.length c5803, .int .i64 x5800.Head, .int .i64 x5800.Tail]) w5821 (by kernel_rfl) (E_load (e := 27) (fr := (0, 0)) _ _ true 3 b5815 0 [.slice p5802 x5800.Items.length c5803, .int .i64 x5800.Head, .int .i64 x5800.Tail] (.agg #[.slice p5802 x5800.Items.length c5803, .int .i64 x5800.Head, .int .i64 x5800.Tail]) rfl (by kernel_rfl) (by kernel_rfl) (by kernel_rfl) (M5822.blk 0 (b := b5815) (o := .cells ⟨[.slice p5802 x5800.Items.length c5803, .int .i64 x5800.Head, .int .i64 x5800.Tail]⟩ 27 (0, 0)) (by kernel_rfl))) ?_
  obtain ⟨r5823, hr5823, hm⟩ := gx_bind hm
  refine W_call 58 #[.agg #[.slice p5802 x5800.Items.length c5803, .int .i64 x5800.Head, .int .i64 x5800.Tail]] (by kernel_rfl) (by kernel_rfl) ?_
  refine (c_s_l20Good w5821 x5800 p5802 c5803 (h5804.mem0 M5822) hr5823).mono ?_
  rintro e_ w5824 ⟨rfl, K5825⟩
  have M5826 := M5822.call0 K5825
  refine ⟨_, rfl, ?_⟩
  refine W_run 1 [(1, .slice p5807 x5805.length c5808), (2, .pointer (some ⟨b5815, 0, none⟩)), (4, .pointer (some ⟨b5820, 0, none⟩)), (14, .bool (!r5823))] w5824 (by kernel_rfl) ?_
  refine W_nil ?_
  refine N_then ?_
  rcases gx_bif hm with ⟨hc5827, hm⟩ | ⟨hc5827, hm⟩
  · refine G_cond_t (b := (!r5823)) hc5827 (by kernel_rfl) ?_
    refine G_seq ?_
    refine G_region ?_
    refine W_run 1 [(4, .pointer (some ⟨b5820, 0, none⟩)), (15, .agg #[.slice none 0 0, .int .i64 0, .int .i64 0])] w5824 (by kernel_rfl) ?_
    refine W_store _ _ _ true 3 b5820 0 [.slice none 0 0, .int .i64 0, .int .i64 0] 27 (.agg #[.slice none 0 0, .int .i64 0, .int .i64 0]) 1 [.slice none 0 0, .int .i64 0, .int .i64 0] M5826 (by kernel_rfl) rfl (by kernel_rfl) (by kernel_rfl) (by kernel_rfl) (by kernel_rfl) (by kernel_rfl) (by kernel_rfl) (by kernel_rfl) (by kernel_rfl) ?_
    intro w5829 M5830
    refine W_run 2 [(4, .pointer (some ⟨b5820, 0, none⟩)), (5, .int .i64 0), (6, .bool false)] w5829 (by kernel_rfl) ?_
    refine W_nil ?_
    refine N_then ?_
    refine G_ret ?_
    refine N_then_ret ?_
    obtain rfl := Option.some.inj hm
    refine N_ret [.agg #[.slice none 0 0, .int .i64 0, .int .i64 0], .int .i64 0, .bool false] (RVs_cons (RV_cell (g := true) (k := 3) (b := b5820) (off := 0) (cs := [.slice none 0 0, .int .i64 0, .int .i64 0]) (e := 27) (fr := (0, 0)) (v := .agg #[.slice none 0 0, .int .i64 0, .int .i64 0]) (M5830.blk 1 (b := b5820) (o := .cells ⟨[.slice none 0 0, .int .i64 0, .int .i64 0]⟩ 27 (0, 0)) (by kernel_rfl)) (by kernel_rfl) (by kernel_rfl) (by kernel_rfl)) (RVs_cons (RV_tmp (by kernel_rfl)) (RVs_cons (RV_tmp (by kernel_rfl)) RVs_nil))) ?_
    exact ⟨none, 0, [], rfl, ownS_nil, M5830.pick [100000] (by kernel_rfl)⟩
  · refine G_cond_f (b := (!r5823)) hc5827 (by kernel_rfl) ?_
    refine G_skip ?_
    refine N_then ?_
    refine G_seq ?_
    refine G_seq ?_
    refine G_region ?_
    refine W_run 1 [(1, .slice p5807 x5805.length c5808), (2, .pointer (some ⟨b5815, 0, none⟩)), (4, .pointer (some ⟨b5820, 0, none⟩)), (7, .int .i64 0)] w5824 (by kernel_rfl) ?_
    refine W_nil ?_
    refine N_then ?_
    obtain ⟨out5858, hw5859, hmo5860⟩ := gx_bind hm
    refine G_meet (fun a w' => ∃ (o5861 : Unit), out5858 = .inl o5861 ∧ Mem [] w w' [[(b5815, .cells ⟨[.slice p5802 x5800.Items.length c5803, .int .i64 x5800.Head, .int .i64 x5800.Tail]⟩ 27 (0, 0))], [(b5820, .cells ⟨[.slice none 0 0, .int .i64 0, .int .i64 0]⟩ 27 (0, 0))]] ∧ Sat Try.f38.ntmps [(1, .slice p5807 x5805.length c5808), (2, .pointer (some ⟨b5815, 0, none⟩)), (4, .pointer (some ⟨b5820, 0, none⟩))] a) ?_ ?_
    · refine G_block ?_
      refine G_while (σ := Int) (ρ := (Unit) ⊕ (Ring × Int × Bool)) (fun s5851 a w' => Mem [] w w' [[(b5815, .cells ⟨[.slice p5802 x5800.Items.length c5803, .int .i64 x5800.Head, .int .i64 x5800.Tail]⟩ 27 (0, 0))], [(b5820, .cells ⟨[.slice none 0 0, .int .i64 0, .int .i64 0]⟩ 27 (0, 0))]] ∧ Sat Try.f38.ntmps [(1, .slice p5807 x5805.length c5808), (2, .pointer (some ⟨b5815, 0, none⟩)), (4, .pointer (some ⟨b5820, 0, none⟩)), (7, .int .i64 s5851)] a) hw5859 (fun a ha => ⟨M5826.pick [0, 1] (by kernel_rfl), ha.sub (by kernel_rfl)⟩) ?_
      clear hm
      intro s5851 x5852 hm hout5853 a5854 w5855 ⟨M5856, hS5857⟩
      refine G_use hS5857 ?_
      refine G_seq ?_
      refine G_seq ?_
      refine G_region ?_
      refine W_run 4 [(1, .slice p5807 x5805.length c5808), (2, .pointer (some ⟨b5815, 0, none⟩)), (4, .pointer (some ⟨b5820, 0, none⟩)), (7, .int .i64 s5851), (19, .bool (decide (s5851 < (x5805.length : Int))))] w5855 (by kernel_rfl) ?_
      refine W_nil ?_
      refine N_then ?_
      rcases gx_bif hm with ⟨hc5862, hm⟩ | ⟨hc5862, hm⟩
      · refine G_cond_t (b := (decide (s5851 < (x5805.length : Int)))) hc5862 (by kernel_rfl) ?_
        refine G_skip ?_
        refine N_then ?_
        refine G_seq ?_
        refine G_block ?_
        refine G_seq ?_
        refine G_region ?_
        refine W_run 2 [(1, .slice p5807 x5805.length c5808), (2, .pointer (some ⟨b5815, 0, none⟩)), (4, .pointer (some ⟨b5820, 0, none⟩)), (7, .int .i64 s5851), (22, .slice p5807 x5805.length c5808), (23, .int .i64 s5851)] w5855 (by kernel_rfl) ?_
        obtain ⟨y5863, hy5863, hm⟩ := gx_bind hm
        refine W_val (elemP p5807 (s5851.toNat * 1)) w5855 (by kernel_rfl) (E_index (E := encI) _ _ _ x5805.length c5808 .i64 s5851 1 (y := y5863) rfl (by kernel_rfl) (by kernel_rfl) (by kernel_rfl) (h5809.mem0 M5856) rfl hy5863) ?_
        refine W_val (.int .i64 y5863) w5855 (by kernel_rfl) (E_loadE (E := encI) _ _ false 1 s5851 0 (s5851.toNat * 1) y5863 (.int .i64 y5863) rfl (by kernel_rfl) (by kernel_rfl) (by kernel_rfl) (h5809.mem0 M5856) hy5863 rfl) ?_
        obtain ⟨r5864, hr5864, hm⟩ := gx_bind hm
        refine W_call 52 #[.int .i64 y5863] (by kernel_rfl) (by kernel_rfl) ?_
        refine (c_s_l2Word16 w5855 y5863 hr5864).mono ?_
        rintro e_ w5865 ⟨rfl, K5866⟩
        have M5867 := M5856.call0 K5866
        refine ⟨_, rfl, ?_⟩
        refine W_run 1 [(1, .slice p5807 x5805.length c5808), (2, .pointer (some ⟨b5815, 0, none⟩)), (4, .pointer (some ⟨b5820, 0, none⟩)), (7, .int .i64 s5851), (27, .bool (!r5864))] w5865 (by kernel_rfl) ?_
        refine W_nil ?_
        refine N_then ?_
        rcases gx_bif hm with ⟨hc5868, hm⟩ | ⟨hc5868, hm⟩
        · refine G_cond_t (b := (!r5864)) hc5868 (by kernel_rfl) ?_
          refine G_seq ?_
          refine G_region ?_
          refine W_run 1 [(4, .pointer (some ⟨b5820, 0, none⟩)), (28, .agg #[.slice none 0 0, .int .i64 0, .int .i64 0])] w5865 (by kernel_rfl) ?_
          refine W_store _ _ _ true 3 b5820 0 [.slice none 0 0, .int .i64 0, .int .i64 0] 27 (.agg #[.slice none 0 0, .int .i64 0, .int .i64 0]) 1 [.slice none 0 0, .int .i64 0, .int .i64 0] M5867 (by kernel_rfl) rfl (by kernel_rfl) (by kernel_rfl) (by kernel_rfl) (by kernel_rfl) (by kernel_rfl) (by kernel_rfl) (by kernel_rfl) (by kernel_rfl) ?_
          intro w5870 M5871
          refine W_run 2 [(4, .pointer (some ⟨b5820, 0, none⟩)), (5, .int .i64 0), (6, .bool false)] w5870 (by kernel_rfl) ?_
          refine W_nil ?_
          refine N_then ?_
          refine G_ret ?_
          refine N_block_ret ?_
          refine N_then_ret ?_
          refine N_then_ret ?_
          obtain rfl := Option.some.inj hm
          obtain rfl := hout5853 _ rfl
          have hm := hmo5860; simp only [Sum.elim_inr] at hm
          refine N_block_ret ?_
          refine N_meet_ret ?_
          refine N_then_ret ?_
          obtain rfl := Option.some.inj hm
          refine N_ret [.agg #[.slice none 0 0, .int .i64 0, .int .i64 0], .int .i64 0, .bool false] (RVs_cons (RV_cell (g := true) (k := 3) (b := b5820) (off := 0) (cs := [.slice none 0 0, .int .i64 0, .int .i64 0]) (e := 27) (fr := (0, 0)) (v := .agg #[.slice none 0 0, .int .i64 0, .int .i64 0]) (M5871.blk 1 (b := b5820) (o := .cells ⟨[.slice none 0 0, .int .i64 0, .int .i64 0]⟩ 27 (0, 0)) (by kernel_rfl)) (by kernel_rfl) (by kernel_rfl) (by kernel_rfl)) (RVs_cons (RV_tmp (by kernel_rfl)) (RVs_cons (RV_tmp (by kernel_rfl)) RVs_nil))) ?_
          exact ⟨none, 0, [], rfl, ownS_nil, M5871.pick [100000] (by kernel_rfl)⟩
        · refine G_cond_f (b := (!r5864)) hc5868 (by kernel_rfl) ?_
          refine G_skip ?_
          refine N_block ?_
          refine N_then ?_
          refine G_region ?_
          refine W_run 3 [(1, .slice p5807 x5805.length c5808), (2, .pointer (some ⟨b5815, 0, none⟩)), (4, .pointer (some ⟨b5820, 0, none⟩)), (7, .int .i64 (w64 (s5851 + 1)))] w5865 (by kernel_rfl) ?_
          refine W_nil ?_
          obtain rfl := Option.some.inj hm
          exact N_loop fun a ha => ⟨_, rfl, M5867.pick [0, 1] (by kernel_rfl), ha.sub (by kernel_rfl)⟩
      · refine G_cond_f (b := (decide (s5851 < (x5805.length : Int)))) hc5862 (by kernel_rfl) ?_
        refine G_exit ?_
        refine N_then_exit ?_
        refine N_then_exit ?_
        refine N_block_eq ?_
        obtain rfl := Option.some.inj hm
        obtain rfl := hout5853 _ rfl
        exact N_meet fun a ha => ⟨_, rfl, M5856.pick [0, 1] (by kernel_rfl), ha.sub (by kernel_rfl)⟩
    · intro a5872 w5873 ⟨o5861, hout_, M5874, hS5875⟩
      refine N_use hS5875 ?_
      subst hout_
      have hm := hmo5860; simp only [Sum.elim_inl] at hm
      refine N_then ?_
      refine G_seq ?_
      obtain ⟨r5878, hr5878, hm⟩ := gx_bind hm
      refine G_sub [(1, .slice p5807 x5805.length c5808), (2, .pointer (some ⟨b5815, 0, none⟩)), (4, .pointer (some ⟨b5820, 0, none⟩))] (by kernel_rfl) ?_
      refine G_dagL 9 [[], [0], [1], [], [3], [], [5], [4, 6], []] [[], [], [], [], [], [], [], [], []] [[], [], [], [], [], [], [], [], []] [[], [], [], [], [], [], [], [2], []] [[], [], [], [], [], [], [], [2], []] [[], [], [], [], [], [], [], [], []] (fun _ => []) (fun i => ([fun f v s => v = (.pointer (some ⟨b5815, 0, none⟩) : Value) ∧ s = [], fun f v s => v = (.slice p5802 x5800.Items.length c5803 : Value) ∧ s = [], fun f v s => ∃ (p5880 : Option Addr) (c5881 : Nat), v = (.slice p5880 r5878.length c5881 : Value) ∧ ownS encI r5878 p5880 c5881 s, fun f v s => v = (.pointer (some ⟨b5815, 1, none⟩) : Value) ∧ s = [], fun f v s => v = (.int .i64 x5800.Head : Value) ∧ s = [], fun f v s => v = (.pointer (some ⟨b5815, 2, none⟩) : Value) ∧ s = [], fun f v s => v = (.int .i64 x5800.Tail : Value) ∧ s = [], fun f v s => v = (.agg #[(atPath (f 2) []), .int .i64 x5800.Head, .int .i64 x5800.Tail] : Value) ∧ s = [], fun f v s => ∃ (b5887 : Nat), v = (.pointer (some ⟨b5887, 0, none⟩) : Value) ∧ s = [(b5887, .cells ⟨[.slice none 0 0, .int .i64 0, .int .i64 0]⟩ 27 (0, 0))]] : List ((Nat → Value) → Value → Seg → Prop)).getD i (fun _ _ _ => False)) (fun j f v => ∃ s, (fun i => ([fun f v s => v = (.pointer (some ⟨b5815, 0, none⟩) : Value) ∧ s = [], fun f v s => v = (.slice p5802 x5800.Items.length c5803 : Value) ∧ s = [], fun f v s => ∃ (p5880 : Option Addr) (c5881 : Nat), v = (.slice p5880 r5878.length c5881 : Value) ∧ ownS encI r5878 p5880 c5881 s, fun f v s => v = (.pointer (some ⟨b5815, 1, none⟩) : Value) ∧ s = [], fun f v s => v = (.int .i64 x5800.Head : Value) ∧ s = [], fun f v s => v = (.pointer (some ⟨b5815, 2, none⟩) : Value) ∧ s = [], fun f v s => v = (.int .i64 x5800.Tail : Value) ∧ s = [], fun f v s => v = (.agg #[(atPath (f 2) []), .int .i64 x5800.Head, .int .i64 x5800.Tail] : Value) ∧ s = [], fun f v s => ∃ (b5887 : Nat), v = (.pointer (some ⟨b5887, 0, none⟩) : Value) ∧ s = [(b5887, .cells ⟨[.slice none 0 0, .int .i64 0, .int .i64 0]⟩ 27 (0, 0))]] : List ((Nat → Value) → Value → Seg → Prop)).getD i (fun _ _ _ => False)) j f v s) [] [2, 7, 8] [2, 8] (fun _ _ _ s h => ⟨s, h⟩) (by kernel_rfl) (by kernel_rfl) (M5874.preNil 9) (by kernel_rfl) (by kernel_rfl) (by kernel_rfl) (by kernel_rfl) (allOb_cons ?_ (allOb_cons ?_ (allOb_cons ?_ (allOb_cons ?_ (allOb_cons ?_ (allOb_cons ?_ (allOb_cons ?_ (allOb_cons ?_ (allOb_cons ?_ allOb_nil))))))))) ?_
      · intro g5876 f5877
        intro R w5888 M5889
        refine W_run 1 [(29, .pointer (some ⟨b5815, 0, none⟩))] w5888 (by kernel_rfl) ?_
        exact W_nil (ob_end (.pointer (some ⟨b5815, 0, none⟩)) [] rfl (by kernel_rfl) ⟨by kernel_rfl, rfl⟩ M5889)
      · intro g5876 f5877
        intro v0_ hb0_
        obtain ⟨rfl, _⟩ := hb0_
        intro R w5892 M5893
        refine W_val (.slice p5802 x5800.Items.length c5803) w5892 (by kernel_rfl) (E_load (e := 27) (fr := (0, 0)) _ _ false 1 b5815 0 [.slice p5802 x5800.Items.length c5803, .int .i64 x5800.Head, .int .i64 x5800.Tail] (.slice p5802 x5800.Items.length c5803) rfl (by kernel_rfl) (by kernel_rfl) (by kernel_rfl) (M5893.blk 0 (b := b5815) (o := .cells ⟨[.slice p5802 x5800.Items.length c5803, .int .i64 x5800.Head, .int .i64 x5800.Tail]⟩ 27 (0, 0)) (by kernel_rfl))) ?_
        exact W_nil (ob_end (.slice p5802 x5800.Items.length c5803) [] rfl (by kernel_rfl) ⟨by kernel_rfl, rfl⟩ M5893)
      · intro g5876 f5877
        intro v1_ hb1_
        obtain ⟨rfl, _⟩ := hb1_
        intro R w5896 M5897
        refine W_call 62 #[.slice p5802 x5800.Items.length c5803] (by kernel_rfl) (by kernel_rfl) ?_
        refine (c_s_l1Own w5896 x5800.Items p5802 c5803 (h5804.mem0 M5897) hr5878).mono ?_
        rintro e_ w5898 ⟨p5880, c5881, sg5882, rfl, ho5883, K5900⟩
        refine ⟨_, rfl, ?_⟩
        exact W_nil (ob_end (.slice p5880 r5878.length c5881) sg5882 rfl (by kernel_rfl) ⟨p5880, c5881, rfl, ho5883⟩ (Mem.callMid M5897 K5900))
      · intro g5876 f5877
        intro R w5901 M5902
        refine W_run 1 [(32, .pointer (some ⟨b5815, 1, none⟩))] w5901 (by kernel_rfl) ?_
        exact W_nil (ob_end (.pointer (some ⟨b5815, 1, none⟩)) [] rfl (by kernel_rfl) ⟨by kernel_rfl, rfl⟩ M5902)
      · intro g5876 f5877
        intro v3_ hb3_
        obtain ⟨rfl, _⟩ := hb3_
        intro R w5905 M5906
        refine W_val (.int .i64 x5800.Head) w5905 (by kernel_rfl) (E_load (e := 27) (fr := (0, 0)) _ _ false 1 b5815 1 [.slice p5802 x5800.Items.length c5803, .int .i64 x5800.Head, .int .i64 x5800.Tail] (.int .i64 x5800.Head) rfl (by kernel_rfl) (by kernel_rfl) (by kernel_rfl) (M5906.blk 0 (b := b5815) (o := .cells ⟨[.slice p5802 x5800.Items.length c5803, .int .i64 x5800.Head, .int .i64 x5800.Tail]⟩ 27 (0, 0)) (by kernel_rfl))) ?_
        exact W_nil (ob_end (.int .i64 x5800.Head) [] rfl (by kernel_rfl) ⟨by kernel_rfl, rfl⟩ M5906)
      · intro g5876 f5877
        intro R w5909 M5910
        refine W_run 1 [(34, .pointer (some ⟨b5815, 2, none⟩))] w5909 (by kernel_rfl) ?_
        exact W_nil (ob_end (.pointer (some ⟨b5815, 2, none⟩)) [] rfl (by kernel_rfl) ⟨by kernel_rfl, rfl⟩ M5910)
      · intro g5876 f5877
        intro v5_ hb5_
        obtain ⟨rfl, _⟩ := hb5_
        intro R w5913 M5914
        refine W_val (.int .i64 x5800.Tail) w5913 (by kernel_rfl) (E_load (e := 27) (fr := (0, 0)) _ _ false 1 b5815 2 [.slice p5802 x5800.Items.length c5803, .int .i64 x5800.Head, .int .i64 x5800.Tail] (.int .i64 x5800.Tail) rfl (by kernel_rfl) (by kernel_rfl) (by kernel_rfl) (M5914.blk 0 (b := b5815) (o := .cells ⟨[.slice p5802 x5800.Items.length c5803, .int .i64 x5800.Head, .int .i64 x5800.Tail]⟩ 27 (0, 0)) (by kernel_rfl))) ?_
        exact W_nil (ob_end (.int .i64 x5800.Tail) [] rfl (by kernel_rfl) ⟨by kernel_rfl, rfl⟩ M5914)
      · intro g5876 f5877
        intro v2_ hb2_
        obtain ⟨_, p5880, c5881, rfl, _⟩ := hb2_
        intro v4_ hb4_
        obtain ⟨rfl, _⟩ := hb4_
        intro v6_ hb6_
        obtain ⟨rfl, _⟩ := hb6_
        intro R w5917 M5918
        refine W_run 1 [(36, .agg #[.slice p5880 r5878.length c5881, .int .i64 x5800.Head, .int .i64 x5800.Tail])] w5917 (by kernel_rfl) ?_
        exact W_nil (ob_end (.agg #[.slice p5880 r5878.length c5881, .int .i64 x5800.Head, .int .i64 x5800.Tail]) [] rfl (by kernel_rfl) ⟨by kernel_rfl, rfl⟩ M5918)
      · intro g5876 f5877
        intro R w5921 M5922
        refine W_new (fun b => .pointer (some ⟨b, 0, none⟩)) (.cells ⟨[.slice none 0 0, .int .i64 0, .int .i64 0]⟩ 27 (0, 0)) M5922 rfl (by kernel_rfl) (by kernel_rfl) ?_
        intro b5887 w5923 M5924
        exact W_nil (ob_end (.pointer (some ⟨b5887, 0, none⟩)) [(b5887, .cells ⟨[.slice none 0 0, .int .i64 0, .int .i64 0]⟩ 27 (0, 0))] rfl (by kernel_rfl) ⟨b5887, rfl, rfl⟩ (Mem.mid M5924))
      · intro g5876 f5877
        intro v2_ hb2_
        obtain ⟨p5880, c5881, rfl, ho5883⟩ := hb2_
        intro v7_ hb7_
        obtain ⟨hv7_, _⟩ := hb7_
        obtain rfl : v7_ = (.agg #[.slice p5880 r5878.length c5881, .int .i64 x5800.Head, .int .i64 x5800.Tail] : Value) := hv7_.trans (by kernel_rfl)
        intro v8_ hb8_
        obtain ⟨b5887, rfl, hs8_⟩ := hb8_
        intro w5925 M5926
        have M5927 : Mem [] w w5925 [[(b5815, .cells ⟨[.slice p5802 x5800.Items.length c5803, .int .i64 x5800.Head, .int .i64 x5800.Tail]⟩ 27 (0, 0))], [(b5820, .cells ⟨[.slice none 0 0, .int .i64 0, .int .i64 0]⟩ 27 (0, 0))], (g5876 2), (g5876 8)] := M5926
        rw [hs8_] at M5927
        refine W_store _ _ _ true 3 b5887 0 [.slice none 0 0, .int .i64 0, .int .i64 0] 27 (.agg #[.slice p5880 r5878.length c5881, .int .i64 x5800.Head, .int .i64 x5800.Tail]) 3 [.slice p5880 r5878.length c5881, .int .i64 x5800.Head, .int .i64 x5800.Tail] M5927 (by kernel_rfl) rfl (by kernel_rfl) (by kernel_rfl) (by kernel_rfl) (by kernel_rfl) (by kernel_rfl) (by kernel_rfl) (by kernel_rfl) (by kernel_rfl) ?_
        intro w5928 M5929
        refine W_nil ?_
        refine N_then ?_
        refine G_seq ?_
        refine G_seq ?_
        refine G_region ?_
        refine W_run 1 [(1, .slice p5807 x5805.length c5808), (4, .pointer (some ⟨b5820, 0, none⟩)), (8, .pointer (some ⟨b5887, 0, none⟩)), (9, .int .i64 0)] w5928 (by kernel_rfl) ?_
        refine W_nil ?_
        refine N_then ?_
        obtain ⟨out6076, hw6077, hmo6078⟩ := gx_bind hm
        refine G_meet (fun a w' => ∃ (o6084 : List Int × Int × Int), ∃ (p6085 : Option Addr), ∃ (c6086 : Nat), ∃ (sg6087 : Seg), ownS encI o6084.1 p6085 c6086 sg6087 ∧ out6076 = .inl o6084 ∧ Mem [] w w' [[(b5820, .cells ⟨[.slice none 0 0, .int .i64 0, .int .i64 0]⟩ 27 (0, 0))], [(b5887, .cells ⟨[.slice p6085 o6084.1.length c6086, .int .i64 o6084.2.1, .int .i64 o6084.2.2]⟩ 27 (0, 0))], sg6087] ∧ Sat Try.f38.ntmps [(1, .slice p5807 x5805.length c5808), (4, .pointer (some ⟨b5820, 0, none⟩)), (8, .pointer (some ⟨b5887, 0, none⟩))] a) ?_ ?_
        · refine G_block ?_
          refine G_while (σ := Int × List Int × Int × Int) (ρ := (List Int × Int × Int) ⊕ (Ring × Int × Bool)) (fun s6069 a w' => ∃ (p6079 : Option Addr), ∃ (c6080 : Nat), ∃ (sg6081 : Seg), ownS encI s6069.2.1 p6079 c6080 sg6081 ∧ Mem [] w w' [[(b5820, .cells ⟨[.slice none 0 0, .int .i64 0, .int .i64 0]⟩ 27 (0, 0))], [(b5887, .cells ⟨[.slice p6079 s6069.2.1.length c6080, .int .i64 s6069.2.2.1, .int .i64 s6069.2.2.2]⟩ 27 (0, 0))], sg6081] ∧ Sat Try.f38.ntmps [(1, .slice p5807 x5805.length c5808), (4, .pointer (some ⟨b5820, 0, none⟩)), (8, .pointer (some ⟨b5887, 0, none⟩)), (9, .int .i64 s6069.1)] a) hw6077 (fun a ha => ⟨p5880, c5881, (g5876 2), ho5883, M5929.pick [1, 3, 2] (by kernel_rfl), ha.sub (by kernel_rfl)⟩) ?_
          clear hm
          intro s6069 x6070 hm hout6071 a6072 w6073 ⟨p6079, c6080, sg6081, ho6082, M6074, hS6075⟩
          refine G_use hS6075 ?_
          refine G_seq ?_
          refine G_seq ?_
          refine G_region ?_
          refine W_run 4 [(1, .slice p5807 x5805.length c5808), (4, .pointer (some ⟨b5820, 0, none⟩)), (8, .pointer (some ⟨b5887, 0, none⟩)), (9, .int .i64 s6069.1), (40, .bool (decide (s6069.1 < (x5805.length : Int))))] w6073 (by kernel_rfl) ?_
          refine W_nil ?_
          refine N_then ?_
          rcases gx_bif hm with ⟨hc6090, hm⟩ | ⟨hc6090, hm⟩
          · refine G_cond_t (b := (decide (s6069.1 < (x5805.length : Int)))) hc6090 (by kernel_rfl) ?_
            refine G_skip ?_
            refine N_then ?_
            refine G_seq ?_
            refine G_block ?_
            refine G_seq ?_
            obtain ⟨y6093, hy6093, hm⟩ := gx_bind hm
            obtain ⟨r6094, hr6094, hm⟩ := gx_bind hm
            refine G_sub [(1, .slice p5807 x5805.length c5808), (4, .pointer (some ⟨b5820, 0, none⟩)), (8, .pointer (some ⟨b5887, 0, none⟩)), (9, .int .i64 s6069.1), (40, .bool (decide (s6069.1 < (x5805.length : Int))))] (by kernel_rfl) ?_
            refine G_dagL 11 [[], [], [], [1, 2], [3], [0, 4], [], [6], [6], [], [7, 9]] [[], [], [], [], [], [], [], [], [], [], [9]] [[], [], [], [], [], [], [], [], [], [], []] [[], [], [], [], [], [], [5], [5], [5], [], [5]] [[], [], [], [], [], [], [5], [5], [], [], [5, 9]] [[], [], [], [], [], [], [], [], [], [], []] (fun _ => []) (fun i => ([fun f v s => v = (.agg #[.slice p6079 s6069.2.1.length c6080, .int .i64 s6069.2.2.1, .int .i64 s6069.2.2.2] : Value) ∧ s = [], fun f v s => v = (.slice p5807 x5805.length c5808 : Value) ∧ s = [], fun f v s => v = (.int .i64 s6069.1 : Value) ∧ s = [], fun f v s => v = (elemP p5807 (s6069.1.toNat * 1) : Value) ∧ s = [], fun f v s => v = (.int .i64 y6093 : Value) ∧ s = [], fun f v s => ∃ (p6096 : Option Addr) (c6097 : Nat), v = (.tuple #[.agg #[.slice p6096 r6094.1.Items.length c6097, .int .i64 r6094.1.Head, .int .i64 r6094.1.Tail], .bool r6094.2] : Value) ∧ ownS encI r6094.1.Items p6096 c6097 s, fun f v s => v = (.tuple #[.agg #[(atPath (f 5) [0, 0]), .int .i64 r6094.1.Head, .int .i64 r6094.1.Tail], .bool r6094.2] : Value) ∧ s = [], fun f v s => v = (.agg #[(atPath (f 5) [0, 0]), .int .i64 r6094.1.Head, .int .i64 r6094.1.Tail] : Value) ∧ s = [], fun f v s => v = (.bool r6094.2 : Value) ∧ s = [], fun f v s => ∃ (b6102 : Nat), v = (.pointer (some ⟨b6102, 0, none⟩) : Value) ∧ s = [(b6102, .cells ⟨[.slice none 0 0, .int .i64 0, .int .i64 0]⟩ 27 (0, 0))], fun f v s => v = undef ∧ s = [((blkOf (f 9)), .cells ⟨[(atPath (f 5) [0, 0]), .int .i64 r6094.1.Head, .int .i64 r6094.1.Tail]⟩ 27 (0, 0))]] : List ((Nat → Value) → Value → Seg → Prop)).getD i (fun _ _ _ => False)) (fun j f v => ∃ s, (fun i => ([fun f v s => v = (.agg #[.slice p6079 s6069.2.1.length c6080, .int .i64 s6069.2.2.1, .int .i64 s6069.2.2.2] : Value) ∧ s = [], fun f v s => v = (.slice p5807 x5805.length c5808 : Value) ∧ s = [], fun f v s => v = (.int .i64 s6069.1 : Value) ∧ s = [], fun f v s => v = (elemP p5807 (s6069.1.toNat * 1) : Value) ∧ s = [], fun f v s => v = (.int .i64 y6093 : Value) ∧ s = [], fun f v s => ∃ (p6096 : Option Addr) (c6097 : Nat), v = (.tuple #[.agg #[.slice p6096 r6094.1.Items.length c6097, .int .i64 r6094.1.Head, .int .i64 r6094.1.Tail], .bool r6094.2] : Value) ∧ ownS encI r6094.1.Items p6096 c6097 s, fun f v s => v = (.tuple #[.agg #[(atPath (f 5) [0, 0]), .int .i64 r6094.1.Head, .int .i64 r6094.1.Tail], .bool r6094.2] : Value) ∧ s = [], fun f v s => v = (.agg #[(atPath (f 5) [0, 0]), .int .i64 r6094.1.Head, .int .i64 r6094.1.Tail] : Value) ∧ s = [], fun f v s => v = (.bool r6094.2 : Value) ∧ s = [], fun f v s => ∃ (b6102 : Nat), v = (.pointer (some ⟨b6102, 0, none⟩) : Value) ∧ s = [(b6102, .cells ⟨[.slice none 0 0, .int .i64 0, .int .i64 0]⟩ 27 (0, 0))], fun f v s => v = undef ∧ s = [((blkOf (f 9)), .cells ⟨[(atPath (f 5) [0, 0]), .int .i64 r6094.1.Head, .int .i64 r6094.1.Tail]⟩ 27 (0, 0))]] : List ((Nat → Value) → Value → Seg → Prop)).getD i (fun _ _ _ => False)) j f v s) [9] [5, 8, 10] [5, 10] (fun _ _ _ s h => ⟨s, h⟩) (by kernel_rfl) (by kernel_rfl) (M6074.preNil 11) (by kernel_rfl) (by kernel_rfl) (by kernel_rfl) (by kernel_rfl) (allOb_cons ?_ (allOb_cons ?_ (allOb_cons ?_ (allOb_cons ?_ (allOb_cons ?_ (allOb_cons ?_ (allOb_cons ?_ (allOb_cons ?_ (allOb_cons ?_ (allOb_cons ?_ (allOb_cons ?_ allOb_nil))))))))))) ?_
            · intro g6091 f6092
              intro R w6103 M6104
              refine W_val (.agg #[.slice p6079 s6069.2.1.length c6080, .int .i64 s6069.2.2.1, .int .i64 s6069.2.2.2]) w6103 (by kernel_rfl) (E_load (e := 27) (fr := (0, 0)) _ _ true 3 b5887 0 [.slice p6079 s6069.2.1.length c6080, .int .i64 s6069.2.2.1, .int .i64 s6069.2.2.2] (.agg #[.slice p6079 s6069.2.1.length c6080, .int .i64 s6069.2.2.1, .int .i64 s6069.2.2.2]) rfl (by kernel_rfl) (by kernel_rfl) (by kernel_rfl) (M6104.blk 1 (b := b5887) (o := .cells ⟨[.slice p6079 s6069.2.1.length c6080, .int .i64 s6069.2.2.1, .int .i64 s6069.2.2.2]⟩ 27 (0, 0)) (by kernel_rfl))) ?_
              exact W_nil (ob_end (.agg #[.slice p6079 s6069.2.1.length c6080, .int .i64 s6069.2.2.1, .int .i64 s6069.2.2.2]) [] rfl (by kernel_rfl) ⟨by kernel_rfl, rfl⟩ M6104)
            · intro g6091 f6092
              intro R w6107 M6108
              refine W_run 1 [(45, .slice p5807 x5805.length c5808)] w6107 (by kernel_rfl) ?_
              exact W_nil (ob_end (.slice p5807 x5805.length c5808) [] rfl (by kernel_rfl) ⟨by kernel_rfl, rfl⟩ M6108)
            · intro g6091 f6092
              intro R w6111 M6112
              refine W_run 1 [(46, .int .i64 s6069.1)] w6111 (by kernel_rfl) ?_
              exact W_nil (ob_end (.int .i64 s6069.1) [] rfl (by kernel_rfl) ⟨by kernel_rfl, rfl⟩ M6112)
            · intro g6091 f6092
              intro v1_ hb1_
              obtain ⟨rfl, _⟩ := hb1_
              intro v2_ hb2_
              obtain ⟨rfl, _⟩ := hb2_
              intro R w6115 M6116
              refine W_val (elemP p5807 (s6069.1.toNat * 1)) w6115 (by kernel_rfl) (E_index (E := encI) _ _ _ x5805.length c5808 .i64 s6069.1 1 (y := y6093) rfl (by kernel_rfl) (by kernel_rfl) (by kernel_rfl) (h5809.mem0 M6116) rfl hy6093) ?_
              exact W_nil (ob_end (elemP p5807 (s6069.1.toNat * 1)) [] rfl (by kernel_rfl) ⟨by kernel_rfl, rfl⟩ M6116)
            · intro g6091 f6092
              intro v3_ hb3_
              obtain ⟨rfl, _⟩ := hb3_
              intro R w6119 M6120
              refine W_val (.int .i64 y6093) w6119 (by kernel_rfl) (E_loadE (E := encI) _ _ false 1 s6069.1 0 (s6069.1.toNat * 1) y6093 (.int .i64 y6093) rfl (by kernel_rfl) (by kernel_rfl) (by kernel_rfl) (h5809.mem0 M6120) hy6093 rfl) ?_
              exact W_nil (ob_end (.int .i64 y6093) [] rfl (by kernel_rfl) ⟨by kernel_rfl, rfl⟩ M6120)
            · intro g6091 f6092
              intro v0_ hb0_
              obtain ⟨rfl, _⟩ := hb0_
              intro v4_ hb4_
              obtain ⟨rfl, _⟩ := hb4_
              intro R w6123 M6124
              refine W_call 67 #[.agg #[.slice p6079 s6069.2.1.length c6080, .int .i64 s6069.2.2.1, .int .i64 s6069.2.2.2], .int .i64 y6093] (by kernel_rfl) (by kernel_rfl) ?_
              refine (c_s_l20Put w6123 (⟨s6069.2.1, s6069.2.2.1, s6069.2.2.2⟩ : Ring) p6079 c6080 (ho6082.rd M6124 2 (by kernel_rfl)) y6093 hr6094).mono ?_
              rintro e_ w6125 ⟨p6096, c6097, sg6098, rfl, ho6099, K6127⟩
              refine ⟨_, rfl, ?_⟩
              exact W_nil (ob_end (.tuple #[.agg #[.slice p6096 r6094.1.Items.length c6097, .int .i64 r6094.1.Head, .int .i64 r6094.1.Tail], .bool r6094.2]) sg6098 rfl (by kernel_rfl) ⟨p6096, c6097, rfl, ho6099⟩ (Mem.callMid M6124 K6127))
            · intro g6091 f6092
              intro v5_ hb5_
              obtain ⟨_, p6096, c6097, rfl, _⟩ := hb5_
              intro R w6128 M6129
              refine W_run 1 [(43, .tuple #[.agg #[.slice p6096 r6094.1.Items.length c6097, .int .i64 r6094.1.Head, .int .i64 r6094.1.Tail], .bool r6094.2])] w6128 (by kernel_rfl) ?_
              exact W_nil (ob_end (.tuple #[.agg #[.slice p6096 r6094.1.Items.length c6097, .int .i64 r6094.1.Head, .int .i64 r6094.1.Tail], .bool r6094.2]) [] rfl (by kernel_rfl) ⟨by kernel_rfl, rfl⟩ M6129)
            · intro g6091 f6092
              intro v5_ hb5_
              obtain ⟨_, p6096, c6097, rfl, _⟩ := hb5_
              intro v6_ hb6_
              obtain ⟨hv6_, _⟩ := hb6_
              obtain rfl : v6_ = (.tuple #[.agg #[.slice p6096 r6094.1.Items.length c6097, .int .i64 r6094.1.Head, .int .i64 r6094.1.Tail], .bool r6094.2] : Value) := hv6_.trans (by kernel_rfl)
              intro R w6132 M6133
              refine W_run 1 [(50, .agg #[.slice p6096 r6094.1.Items.length c6097, .int .i64 r6094.1.Head, .int .i64 r6094.1.Tail])] w6132 (by kernel_rfl) ?_
              exact W_nil (ob_end (.agg #[.slice p6096 r6094.1.Items.length c6097, .int .i64 r6094.1.Head, .int .i64 r6094.1.Tail]) [] rfl (by kernel_rfl) ⟨by kernel_rfl, rfl⟩ M6133)
            · intro g6091 f6092
              intro v5_ hb5_
              obtain ⟨_, p6096, c6097, rfl, _⟩ := hb5_
              intro v6_ hb6_
              obtain ⟨hv6_, _⟩ := hb6_
              obtain rfl : v6_ = (.tuple #[.agg #[.slice p6096 r6094.1.Items.length c6097, .int .i64 r6094.1.Head, .int .i64 r6094.1.Tail], .bool r6094.2] : Value) := hv6_.trans (by kernel_rfl)
              intro R w6136 M6137
              refine W_run 1 [(51, .bool r6094.2)] w6136 (by kernel_rfl) ?_
              exact W_nil (ob_end (.bool r6094.2) [] rfl (by kernel_rfl) ⟨by kernel_rfl, rfl⟩ M6137)
            · intro g6091 f6092
              intro R w6140 M6141
              refine W_new (fun b => .pointer (some ⟨b, 0, none⟩)) (.cells ⟨[.slice none 0 0, .int .i64 0, .int .i64 0]⟩ 27 (0, 0)) M6141 rfl (by kernel_rfl) (by kernel_rfl) ?_
              intro b6102 w6142 M6143
              exact W_nil (ob_end (.pointer (some ⟨b6102, 0, none⟩)) [(b6102, .cells ⟨[.slice none 0 0, .int .i64 0, .int .i64 0]⟩ 27 (0, 0))] rfl (by kernel_rfl) ⟨b6102, rfl, rfl⟩ (Mem.mid M6143))
            · intro g6091 f6092
              intro v5_ hb5_
              obtain ⟨_, p6096, c6097, rfl, _⟩ := hb5_
              intro v7_ hb7_
              obtain ⟨hv7_, _⟩ := hb7_
              obtain rfl : v7_ = (.agg #[.slice p6096 r6094.1.Items.length c6097, .int .i64 r6094.1.Head, .int .i64 r6094.1.Tail] : Value) := hv7_.trans (by kernel_rfl)
              intro v9_ hb9_
              obtain ⟨b6102, rfl, hs9_⟩ := hb9_
              intro R w6144 M6145
              have M6146 : Mem [] w w6144 ([[(b5820, .cells ⟨[.slice none 0 0, .int .i64 0, .int .i64 0]⟩ 27 (0, 0))], [(b5887, .cells ⟨[.slice p6079 s6069.2.1.length c6080, .int .i64 s6069.2.2.1, .int .i64 s6069.2.2.2]⟩ 27 (0, 0))], sg6081] ++ ([[]] ++ ([(g6091 9)] ++ ([] ++ R)))) := M6145
              rw [hs9_] at M6146
              replace M6146 : Mem [] w w6144 ([[(b5820, .cells ⟨[.slice none 0 0, .int .i64 0, .int .i64 0]⟩ 27 (0, 0))], [(b5887, .cells ⟨[.slice p6079 s6069.2.1.length c6080, .int .i64 s6069.2.2.1, .int .i64 s6069.2.2.2]⟩ 27 (0, 0))], sg6081] ++ ([[]] ++ ([[(b6102, .cells ⟨[.slice none 0 0, .int .i64 0, .int .i64 0]⟩ 27 (0, 0))]] ++ ([] ++ R)))) := M6146.permF (by simp)
              refine W_store _ _ _ true 3 b6102 0 [.slice none 0 0, .int .i64 0, .int .i64 0] 27 (.agg #[.slice p6096 r6094.1.Items.length c6097, .int .i64 r6094.1.Head, .int .i64 r6094.1.Tail]) 4 [.slice p6096 r6094.1.Items.length c6097, .int .i64 r6094.1.Head, .int .i64 r6094.1.Tail] M6146 (by kernel_rfl) rfl (by kernel_rfl) (by kernel_rfl) (by kernel_rfl) (by kernel_rfl) (by kernel_rfl) (by kernel_rfl) (by kernel_rfl) (by kernel_rfl) ?_
              intro w6147 M6148
              exact W_nil (ob_none [(b6102, .cells ⟨[.slice p6096 r6094.1.Items.length c6097, .int .i64 r6094.1.Head, .int .i64 r6094.1.Tail]⟩ 27 (0, 0))] rfl ⟨rfl, by kernel_rfl⟩ (Mem.takeOver M6148))
            · intro g6091 f6092
              intro v9_ hb9_
              obtain ⟨_, b6102, rfl, hs9_⟩ := hb9_
              intro v5_ hb5_
              obtain ⟨p6096, c6097, rfl, ho6099⟩ := hb5_
              intro v8_ hb8_
              obtain ⟨rfl, _⟩ := hb8_
              intro v10_ hb10_
              obtain ⟨rfl, hs10_⟩ := hb10_
              replace hs10_ := hs10_.trans (show _ = [(b6102, .cells ⟨[.slice p6096 r6094.1.Items.length c6097, .int .i64 r6094.1.Head, .int .i64 r6094.1.Tail]⟩ 27 (0, 0))] by kernel_rfl)
              intro w6149 M6150
              have M6151 : Mem [] w w6149 [[(b5820, .cells ⟨[.slice none 0 0, .int .i64 0, .int .i64 0]⟩ 27 (0, 0))], [(b5887, .cells ⟨[.slice p6079 s6069.2.1.length c6080, .int .i64 s6069.2.2.1, .int .i64 s6069.2.2.2]⟩ 27 (0, 0))], sg6081, (g6091 5), (g6091 10)] := M6150
              rw [hs10_] at M6151
              refine W_run 1 [(1, .slice p5807 x5805.length c5808), (4, .pointer (some ⟨b5820, 0, none⟩)), (8, .pointer (some ⟨b5887, 0, none⟩)), (9, .int .i64 s6069.1), (10, .pointer (some ⟨b6102, 0, none⟩)), (11, .bool r6094.2)] w6149 (by kernel_rfl) ?_
              refine W_nil ?_
              refine N_then ?_
              refine G_seq ?_
              refine G_seq ?_
              refine G_region ?_
              refine W_run 2 [(1, .slice p5807 x5805.length c5808), (4, .pointer (some ⟨b5820, 0, none⟩)), (8, .pointer (some ⟨b5887, 0, none⟩)), (9, .int .i64 s6069.1), (10, .pointer (some ⟨b6102, 0, none⟩)), (53, .bool (!r6094.2))] w6149 (by kernel_rfl) ?_
              refine W_nil ?_
              refine N_then ?_
              rcases gx_bif hm with ⟨hc6152, hm⟩ | ⟨hc6152, hm⟩
              · refine G_cond_t (b := (!r6094.2)) hc6152 (by kernel_rfl) ?_
                refine G_seq ?_
                refine G_region ?_
                refine W_val (.agg #[.slice p6079 s6069.2.1.length c6080, .int .i64 s6069.2.2.1, .int .i64 s6069.2.2.2]) w6149 (by kernel_rfl) (E_load (e := 27) (fr := (0, 0)) _ _ true 3 b5887 0 [.slice p6079 s6069.2.1.length c6080, .int .i64 s6069.2.2.1, .int .i64 s6069.2.2.2] (.agg #[.slice p6079 s6069.2.1.length c6080, .int .i64 s6069.2.2.1, .int .i64 s6069.2.2.2]) rfl (by kernel_rfl) (by kernel_rfl) (by kernel_rfl) (M6151.blk 1 (b := b5887) (o := .cells ⟨[.slice p6079 s6069.2.1.length c6080, .int .i64 s6069.2.2.1, .int .i64 s6069.2.2.2]⟩ 27 (0, 0)) (by kernel_rfl))) ?_
                refine W_run 1 [(4, .pointer (some ⟨b5820, 0, none⟩)), (54, .agg #[.slice p6079 s6069.2.1.length c6080, .int .i64 s6069.2.2.1, .int .i64 s6069.2.2.2]), (55, .int .i64 s6069.1)] w6149 (by kernel_rfl) ?_
                refine W_store _ _ _ true 3 b5820 0 [.slice none 0 0, .int .i64 0, .int .i64 0] 27 (.agg #[.slice p6079 s6069.2.1.length c6080, .int .i64 s6069.2.2.1, .int .i64 s6069.2.2.2]) 0 [.slice p6079 s6069.2.1.length c6080, .int .i64 s6069.2.2.1, .int .i64 s6069.2.2.2] M6151 (by kernel_rfl) rfl (by kernel_rfl) (by kernel_rfl) (by kernel_rfl) (by kernel_rfl) (by kernel_rfl) (by kernel_rfl) (by kernel_rfl) (by kernel_rfl) ?_
                intro w6153 M6154
                refine W_run 2 [(4, .pointer (some ⟨b5820, 0, none⟩)), (5, .int .i64 s6069.1), (6, .bool true)] w6153 (by kernel_rfl) ?_
                refine W_nil ?_
                refine N_then ?_
                refine G_ret ?_
                refine N_then_ret ?_
                refine N_block_ret ?_
                refine N_then_ret ?_
                refine N_then_ret ?_
                obtain rfl := Option.some.inj hm
                obtain rfl := hout6071 _ rfl
                have hm := hmo6078; simp only [Sum.elim_inr] at hm
                refine N_block_ret ?_
                refine N_meet_ret ?_
                refine N_then_ret ?_
                obtain rfl := Option.some.inj hm
                refine N_ret [.agg #[.slice p6079 s6069.2.1.length c6080, .int .i64 s6069.2.2.1, .int .i64 s6069.2.2.2], .int .i64 s6069.1, .bool true] (RVs_cons (RV_cell (g := true) (k := 3) (b := b5820) (off := 0) (cs := [.slice p6079 s6069.2.1.length c6080, .int .i64 s6069.2.2.1, .int .i64 s6069.2.2.2]) (e := 27) (fr := (0, 0)) (v := .agg #[.slice p6079 s6069.2.1.length c6080, .int .i64 s6069.2.2.1, .int .i64 s6069.2.2.2]) (M6154.blk 0 (b := b5820) (o := .cells ⟨[.slice p6079 s6069.2.1.length c6080, .int .i64 s6069.2.2.1, .int .i64 s6069.2.2.2]⟩ 27 (0, 0)) (by kernel_rfl)) (by kernel_rfl) (by kernel_rfl) (by kernel_rfl)) (RVs_cons (RV_tmp (by kernel_rfl)) (RVs_cons (RV_tmp (by kernel_rfl)) RVs_nil))) ?_
                exact ⟨p6079, c6080, sg6081, rfl, ho6082, M6154.pick [2] (by kernel_rfl)⟩
              · refine G_cond_f (b := (!r6094.2)) hc6152 (by kernel_rfl) ?_
                refine G_skip ?_
                refine N_then ?_
                refine G_region ?_
                refine W_val (.agg #[.slice p6096 r6094.1.Items.length c6097, .int .i64 r6094.1.Head, .int .i64 r6094.1.Tail]) w6149 (by kernel_rfl) (E_load (e := 27) (fr := (0, 0)) _ _ true 3 b6102 0 [.slice p6096 r6094.1.Items.length c6097, .int .i64 r6094.1.Head, .int .i64 r6094.1.Tail] (.agg #[.slice p6096 r6094.1.Items.length c6097, .int .i64 r6094.1.Head, .int .i64 r6094.1.Tail]) rfl (by kernel_rfl) (by kernel_rfl) (by kernel_rfl) (M6151.blk 4 (b := b6102) (o := .cells ⟨[.slice p6096 r6094.1.Items.length c6097, .int .i64 r6094.1.Head, .int .i64 r6094.1.Tail]⟩ 27 (0, 0)) (by kernel_rfl))) ?_
                refine W_store _ _ _ true 3 b5887 0 [.slice p6079 s6069.2.1.length c6080, .int .i64 s6069.2.2.1, .int .i64 s6069.2.2.2] 27 (.agg #[.slice p6096 r6094.1.Items.length c6097, .int .i64 r6094.1.Head, .int .i64 r6094.1.Tail]) 1 [.slice p6096 r6094.1.Items.length c6097, .int .i64 r6094.1.Head, .int .i64 r6094.1.Tail] M6151 (by kernel_rfl) rfl (by kernel_rfl) (by kernel_rfl) (by kernel_rfl) (by kernel_rfl) (by kernel_rfl) (by kernel_rfl) (by kernel_rfl) (by kernel_rfl) ?_
                intro w6155 M6156
                refine W_nil ?_
                refine N_block ?_
                refine N_then ?_
                refine G_region ?_
                refine W_run 3 [(1, .slice p5807 x5805.length c5808), (4, .pointer (some ⟨b5820, 0, none⟩)), (8, .pointer (some ⟨b5887, 0, none⟩)), (9, .int .i64 (w64 (s6069.1 + 1)))] w6155 (by kernel_rfl) ?_
                refine W_nil ?_
                obtain rfl := Option.some.inj hm
                exact N_loop fun a ha => ⟨_, rfl, p6096, c6097, (g6091 5), ho6099, M6156.pick [0, 1, 3] (by kernel_rfl), ha.sub (by kernel_rfl)⟩
          · refine G_cond_f (b := (decide (s6069.1 < (x5805.length : Int)))) hc6090 (by kernel_rfl) ?_
            refine G_exit ?_
            refine N_then_exit ?_
            refine N_then_exit ?_
            refine N_block_eq ?_
            obtain rfl := Option.some.inj hm
            obtain rfl := hout6071 _ rfl
            exact N_meet fun a ha => ⟨_, p6079, c6080, sg6081, ho6082, rfl, M6074.pick [0, 1, 2] (by kernel_rfl), ha.sub (by kernel_rfl)⟩
        · intro a6157 w6158 ⟨o6084, p6085, c6086, sg6087, ho6088, hout_, M6159, hS6160⟩
          refine N_use hS6160 ?_
          subst hout_
          have hm := hmo6078; simp only [Sum.elim_inl] at hm
          refine N_then ?_
          refine G_seq ?_
          refine G_region ?_
          refine W_val (.agg #[.slice p6085 o6084.1.length c6086, .int .i64 o6084.2.1, .int .i64 o6084.2.2]) w6158 (by kernel_rfl) (E_load (e := 27) (fr := (0, 0)) _ _ true 3 b5887 0 [.slice p6085 o6084.1.length c6086, .int .i64 o6084.2.1, .int .i64 o6084.2.2] (.agg #[.slice p6085 o6084.1.length c6086, .int .i64 o6084.2.1, .int .i64 o6084.2.2]) rfl (by kernel_rfl) (by kernel_rfl) (by kernel_rfl) (M6159.blk 1 (b := b5887) (o := .cells ⟨[.slice p6085 o6084.1.length c6086, .int .i64 o6084.2.1, .int .i64 o6084.2.2]⟩ 27 (0, 0)) (by kernel_rfl))) ?_
          refine W_run 2 [(4, .pointer (some ⟨b5820, 0, none⟩)), (57, .agg #[.slice p6085 o6084.1.length c6086, .int .i64 o6084.2.1, .int .i64 o6084.2.2]), (59, .int .i64 (x5805.length : Int))] w6158 (by kernel_rfl) ?_
          refine W_store _ _ _ true 3 b5820 0 [.slice none 0 0, .int .i64 0, .int .i64 0] 27 (.agg #[.slice p6085 o6084.1.length c6086, .int .i64 o6084.2.1, .int .i64 o6084.2.2]) 0 [.slice p6085 o6084.1.length c6086, .int .i64 o6084.2.1, .int .i64 o6084.2.2] M6159 (by kernel_rfl) rfl (by kernel_rfl) (by kernel_rfl) (by kernel_rfl) (by kernel_rfl) (by kernel_rfl) (by kernel_rfl) (by kernel_rfl) (by kernel_rfl) ?_
          intro w6161 M6162
          refine W_run 2 [(4, .pointer (some ⟨b5820, 0, none⟩)), (5, .int .i64 (x5805.length : Int)), (6, .bool true)] w6161 (by kernel_rfl) ?_
          refine W_nil ?_
          refine N_then ?_
          refine G_ret ?_
          obtain rfl := Option.some.inj hm
          refine N_ret [.agg #[.slice p6085 o6084.1.length c6086, .int .i64 o6084.2.1, .int .i64 o6084.2.2], .int .i64 (x5805.length : Int), .bool true] (RVs_cons (RV_cell (g := true) (k := 3) (b := b5820) (off := 0) (cs := [.slice p6085 o6084.1.length c6086, .int .i64 o6084.2.1, .int .i64 o6084.2.2]) (e := 27) (fr := (0, 0)) (v := .agg #[.slice p6085 o6084.1.length c6086, .int .i64 o6084.2.1, .int .i64 o6084.2.2]) (M6162.blk 0 (b := b5820) (o := .cells ⟨[.slice p6085 o6084.1.length c6086, .int .i64 o6084.2.1, .int .i64 o6084.2.2]⟩ 27 (0, 0)) (by kernel_rfl)) (by kernel_rfl) (by kernel_rfl) (by kernel_rfl)) (RVs_cons (RV_tmp (by kernel_rfl)) (RVs_cons (RV_tmp (by kernel_rfl)) RVs_nil))) ?_
          exact ⟨p6085, c6086, sg6087, rfl, ho6088, M6162.pick [2] (by kernel_rfl)⟩
theorem c_s_DrawTakeWords (w : World) (x8821 : List Int) (p8823 : Option Addr) (c8824 : Nat) (h8825 : rdS encU8 w x8821 p8823 c8824) {r : Ring × Int} (hm : M.s_DrawTakeWords x8821 = some r) :
    Calls Try.prog 51 #[.slice p8823 x8821.length c8824] w fun e w' => ∃ (p8827 : Option Addr) (c8828 : Nat) (sg8829 : Seg), e = .returned (.tuple #[.agg #[.slice p8827 r.1.Items.length c8828, .int .i64 r.1.Head, .int .i64 r.1.Tail], .int .i64 r.2]) ∧ ownS encI r.1.Items p8827 c8828 sg8829 ∧ Mem [] w w' [sg8829] := by
  unfold M.s_DrawTakeWords at hm
  refine C_enter Try.func51 rfl (by kernel_rfl) ?_
  have M0 := Mem.refl [] w
  refine G_seq ?_
  refine G_region ?_
  refine W_new (fun b => .pointer (some ⟨b, 0, none⟩)) (.cells ⟨[.slice none 0 0, .int .i64 0, .int .i64 0]⟩ 27 (0, 0)) M0 rfl (by kernel_rfl) (by kernel_rfl) ?_
  intro b8832 w8833 M8834
  refine W_run 1 [(0, .slice p8823 x8821.length c8824), (2, .pointer (some ⟨b8832, 0, none⟩))] w8833 (by kernel_rfl) ?_
  refine W_nil ?_
  refine N_then ?_
  refine G_seq ?_
  refine G_region ?_
  refine W_run 2 [(2, .pointer (some ⟨b8832, 0, none⟩)), (6, .agg #[.slice p8823 x8821.length c8824, .int .i64 0, .int .u64 0])] w8833 (by kernel_rfl) ?_
  refine W_new (fun b => .pointer (some ⟨b, 0, none⟩)) (.cells ⟨[.slice p8823 x8821.length c8824, .int .i64 0, .int .u64 0]⟩ 73 (0, 0)) M8834 rfl (by kernel_rfl) (by kernel_rfl) ?_
  intro b8837 w8838 M8839
  refine W_run 1 [(2, .pointer (some ⟨b8832, 0, none⟩)), (4, .pointer (some ⟨b8837, 0, none⟩))] w8838 (by kernel_rfl) ?_
  refine W_nil ?_
  refine N_then ?_
  refine G_seq ?_
  refine G_region ?_
  refine W_run 1 [(2, .pointer (some ⟨b8832, 0, none⟩)), (4, .pointer (some ⟨b8837, 0, none⟩)), (8, .pointer (some ⟨b8837, 0, none⟩))] w8838 (by kernel_rfl) ?_
  obtain ⟨r8840, hr8840, hm⟩ := gx_bind hm
  refine W_call 74 #[.pointer (some ⟨b8837, 0, none⟩)] (by kernel_rfl) (by kernel_rfl) ?_
  refine (c_s_l1Cur_ring w8838 (⟨x8821, 0, 0⟩ : l1Cur) p8823 c8824 (h8825.mem0 M8839) b8837 (M8839.hasPick [1]) (M8839.nodupPick [1] (by kernel_rfl)) (apartX.old0 h8825 M8839 [1]) hr8840).mono ?_
  rintro e_ w8846 ⟨p8842, c8843, sg8844, rfl, ho8845, K8847⟩
  have M8848 := M8839.callF' [1] [0] (by kernel_rfl) K8847
  refine ⟨_, rfl, ?_⟩
  refine W_run 1 [(2, .pointer (some ⟨b8832, 0, none⟩)), (4, .pointer (some ⟨b8837, 0, none⟩)), (9, .agg #[.slice p8842 r8840.1.Items.length c8843, .int .i64 r8840.1.Head, .int .i64 r8840.1.Tail]), (10, .pointer (some ⟨b8837, 0, none⟩))] w8846 (by kernel_rfl) ?_
  obtain ⟨r8849, hr8849, hm⟩ := gx_bind hm
  refine W_call 73 #[.pointer (some ⟨b8837, 0, none⟩), .int .i64 9] (by kernel_rfl) (by kernel_rfl) ?_
  refine (c_s_l1Cur_pick w8846 (⟨x8821, r8840.2.1, r8840.2.2⟩ : l1Cur) p8823 c8824 (h8825.mem0 M8848) b8837 9 (M8848.hasPick [1]) (M8848.nodupPick [1] (by kernel_rfl)) (apartX.old0 h8825 M8848 [1]) hr8849).mono ?_
  rintro e_ w8850 ⟨rfl, K8851⟩
  have M8852 := M8848.callF' [1] [0, 2] (by kernel_rfl) K8851
  refine ⟨_, rfl, ?_⟩
  refine W_run 1 [(2, .pointer (some ⟨b8832, 0, none⟩)), (9, .agg #[.slice p8842 r8840.1.Items.length c8843, .int .i64 r8840.1.Head, .int .i64 r8840.1.Tail]), (11, .int .i64 r8849.1), (12, .pointer (some ⟨b8837, 0, none⟩))] w8850 (by kernel_rfl) ?_
  obtain ⟨r8853, hr8853, hm⟩ := gx_bind hm
  refine W_call 73 #[.pointer (some ⟨b8837, 0, none⟩), .int .i64 9] (by kernel_rfl) (by kernel_rfl) ?_
  refine (c_s_l1Cur_pick w8850 (⟨x8821, r8849.2.1, r8849.2.2⟩ : l1Cur) p8823 c8824 (h8825.mem0 M8852) b8837 9 (M8852.hasPick [2]) (M8852.nodupPick [2] (by kernel_rfl)) (apartX.old0 h8825 M8852 [2]) hr8853).mono ?_
  rintro e_ w8854 ⟨rfl, K8855⟩
  have M8856 := M8852.callF' [2] [0, 1] (by kernel_rfl) K8855
  refine ⟨_, rfl, ?_⟩
  refine W_run 2 [(2, .pointer (some ⟨b8832, 0, none⟩)), (9, .agg #[.slice p8842 r8840.1.Items.length c8843, .int .i64 r8840.1.Head, .int .i64 r8840.1.Tail]), (15, .int .i64 (w64 (r8849.1 - (w64 (r8853.1.tdiv 8)))))] w8854 (by kernel_rfl) ?_
  refine W_store _ _ _ true 3 b8832 0 [.slice none 0 0, .int .i64 0, .int .i64 0] 27 (.agg #[.slice p8842 r8840.1.Items.length c8843, .int .i64 r8840.1.Head, .int .i64 r8840.1.Tail]) 0 [.slice p8842 r8840.1.Items.length c8843, .int .i64 r8840.1.Head, .int .i64 r8840.1.Tail] M8856 (by kernel_rfl) rfl (by kernel_rfl) (by kernel_rfl) (by kernel_rfl) (by kernel_rfl) (by kernel_rfl) (by kernel_rfl) (by kernel_rfl) (by kernel_rfl) ?_
  intro w8857 M8858
  refine W_run 1 [(2, .pointer (some ⟨b8832, 0, none⟩)), (3, .int .i64 (w64 (r8849.1 - (w64 (r8853.1.tdiv 8)))))] w8857 (by kernel_rfl) ?_
  refine W_nil ?_
  refine N_then ?_
  refine G_ret ?_
  obtain rfl := Option.some.inj hm
  refine N_ret [.agg #[.slice p8842 r8840.1.Items.length c8843, .int .i64 r8840.1.Head, .int .i64 r8840.1.Tail], .int .i64 (w64 (r8849.1 - (w64 (r8853.1.tdiv 8))))] (RVs_cons (RV_cell (g := true) (k := 3) (b := b8832) (off := 0) (cs := [.slice p8842 r8840.1.Items.length c8843, .int .i64 r8840.1.Head, .int .i64 r8840.1.Tail]) (e := 27) (fr := (0, 0)) (v := .agg #[.slice p8842 r8840.1.Items.length c8843, .int .i64 r8840.1.Head, .int .i64 r8840.1.Tail]) (M8858.blk 0 (b := b8832) (o := .cells ⟨[.slice p8842 r8840.1.Items.length c8843, .int .i64 r8840.1.Head, .int .i64 r8840.1.Tail]⟩ 27 (0, 0)) (by kernel_rfl)) (by kernel_rfl) (by kernel_rfl) (by kernel_rfl)) (RVs_cons (RV_tmp (by kernel_rfl)) RVs_nil)) ?_
  exact ⟨p8842, c8843, sg8844, rfl, ho8845, M8858.pick [1] (by kernel_rfl)⟩
theorem c_s_TakeWords (w : World) (x8896 : Ring) (p8898 : Option Addr) (c8899 : Nat) (h8900 : rdS encI w x8896.Items p8898 c8899) (x8901 : Int) {r : Ring × (List Int) × Bool} (hm : M.s_TakeWords x8896 x8901 = some r) :
    Calls Try.prog 30 #[.agg #[.slice p8898 x8896.Items.length c8899, .int .i64 x8896.Head, .int .i64 x8896.Tail], .int .i64 x8901] w fun e w' => ∃ (p8903 : Option Addr) (c8904 : Nat) (sg8905 : Seg), ∃ (p8907 : Option Addr) (c8908 : Nat) (sg8909 : Seg), e = .returned (.tuple #[.agg #[.slice p8903 r.1.Items.length c8904, .int .i64 r.1.Head, .int .i64 r.1.Tail], .slice p8907 r.2.1.length c8908, .bool r.2.2]) ∧ ownS encI r.1.Items p8903 c8904 sg8905 ∧ ownS encI r.2.1 p8907 c8908 sg8909 ∧ Mem [] w w' [sg8905, sg8909] := by
  unfold M.s_TakeWords at hm
  refine C_enter Try.func30 rfl (by kernel_rfl) ?_
  have M0 := Mem.refl [] w
  refine G_seq ?_
  refine G_region ?_
  refine W_new (fun b => .pointer (some ⟨b, 0, none⟩)) (.cells ⟨[.slice p8898 x8896.Items.length c8899, .int .i64 x8896.Head, .int .i64 x8896.Tail]⟩ 27 (0, 0)) M0 rfl (by kernel_rfl) (by kernel_rfl) ?_
  intro b8911 w8912 M8913
  refine W_new (fun b => .pointer (some ⟨b, 0, none⟩)) (.cells ⟨[.slice none 0 0, .int .i64 0, .int .i64 0]⟩ 27 (0, 0)) M8913 rfl (by kernel_rfl) (by kernel_rfl) ?_
  intro b8916 w8917 M8918
  refine W_run 2 [(1, .int .i64 x8901), (2, .pointer (some ⟨b8911, 0, none⟩)), (4, .pointer (some ⟨b8916, 0, none⟩))] w8917 (by kernel_rfl) ?_
  refine W_nil ?_
  refine N_then ?_
  refine G_seq ?_
  refine G_region ?_
  refine W_lit (E := encI) ([] : List Int) 0 [] 3 M8918 (by kernel_rfl) (by kernel_rfl) (by kernel_rfl) (by kernel_rfl) (by kernel_rfl) ?_
  intro p8920 c8921 sg8922 w8923 ho8924 M8925
  refine W_run 1 [(1, .int .i64 x8901), (2, .pointer (some ⟨b8911, 0, none⟩)), (4, .pointer (some ⟨b8916, 0, none⟩)), (7, .slice p8920 ([] : List Int).length c8921)] w8923 (by kernel_rfl) ?_
  refine W_nil ?_
  refine N_then ?_
  refine G_seq ?_
  refine G_seq ?_
  obtain ⟨o8932, ho8933, hm8934⟩ := gx_bind hm
  refine G_meet (fun a w' => Mem [] w w' [[(b8911, .cells ⟨[.slice p8898 x8896.Items.length c8899, .int .i64 x8896.Head, .int .i64 x8896.Tail]⟩ 27 (0, 0))], [(b8916, .cells ⟨[.slice none 0 0, .int .i64 0, .int .i64 0]⟩ 27 (0, 0))], sg8922] ∧ Sat Try.f30.ntmps [(1, .int .i64 x8901), (2, .pointer (some ⟨b8911, 0, none⟩)), (4, .pointer (some ⟨b8916, 0, none⟩)), (7, .slice p8920 ([] : List Int).length c8921), (18, .bool o8932)] a) ?_ ?_
  · have hm := ho8933
    refine G_region ?_
    refine W_val (.agg #[.slice p8898 x8896.Items.length c8899, .int .i64 x8896.Head, .int .i64 x8896.Tail]) w8923 (by kernel_rfl) (E_load (e := 27) (fr := (0, 0)) _ _ true 3 b8911 0 [.slice p8898 x8896.Items.length c8899, .int .i64 x8896.Head, .int .i64 x8896.Tail] (.agg #[.slice p8898 x8896.Items.length c8899, .int .i64 x8896.Head, .int .i64 x8896.Tail]) rfl (by kernel_rfl) (by kernel_rfl) (by kernel_rfl) (M8925.blk 0 (b := b8911) (o := .cells ⟨[.slice p8898 x8896.Items.length c8899, .int .i64 x8896.Head, .int .i64 x8896.Tail]⟩ 27 (0, 0)) (by kernel_rfl))) ?_
    obtain ⟨r8935, hr8935, hm⟩ := gx_bind hm
    refine W_call 58 #[.agg #[.slice p8898 x8896.Items.length c8899, .int .i64 x8896.Head, .int .i64 x8896.Tail]] (by kernel_rfl) (by kernel_rfl) ?_
    refine (c_s_l20Good w8923 x8896 p8898 c8899 (h8900.mem0 M8925) hr8935).mono ?_
    rintro e_ w8936 ⟨rfl, K8937⟩
    have M8938 := M8925.call0 K8937
    refine ⟨_, rfl, ?_⟩
    refine W_run 2 [(1, .int .i64 x8901), (2, .pointer (some ⟨b8911, 0, none⟩)), (4, .pointer (some ⟨b8916, 0, none⟩)), (7, .slice p8920 ([] : List Int).length c8921), (15, .bool (!r8935))] w8936 (by kernel_rfl) ?_
    rcases gx_bif hm with ⟨hc8939, hm⟩ | ⟨hc8939, hm⟩
    · refine W_known 15 true (by kernel_rfl) hc8939 ?_
      refine W_run 3 [(1, .int .i64 x8901), (2, .pointer (some ⟨b8911, 0, none⟩)), (4, .pointer (some ⟨b8916, 0, none⟩)), (7, .slice p8920 ([] : List Int).length c8921), (18, .bool true)] w8936 (by kernel_rfl) ?_
      refine W_nil ?_
      obtain rfl := Option.some.inj hm
      exact N_meet fun a ha => ⟨M8938.pick [0, 1, 2] (by kernel_rfl), ha.sub (by kernel_rfl)⟩
    · refine W_known 15 false (by kernel_rfl) hc8939 ?_
      refine W_run 3 [(1, .int .i64 x8901), (2, .pointer (some ⟨b8911, 0, none⟩)), (4, .pointer (some ⟨b8916, 0, none⟩)), (7, .slice p8920 ([] : List Int).length c8921), (18, .bool (decide (x8901 < 0)))] w8936 (by kernel_rfl) ?_
      refine W_nil ?_
      obtain rfl := Option.some.inj hm
      exact N_meet fun a ha => ⟨M8938.pick [0, 1, 2] (by kernel_rfl), ha.sub (by kernel_rfl)⟩
  · intro a8942 w8940 ⟨M8941, hS8943⟩
    refine N_use hS8943 ?_
    have hm := hm8934
    refine N_then ?_
    rcases gx_bif hm with ⟨hc8944, hm⟩ | ⟨hc8944, hm⟩
    · refine G_cond_t (b := o8932) hc8944 (by kernel_rfl) ?_
      refine G_seq ?_
      refine G_region ?_
      refine W_run 2 [(4, .pointer (some ⟨b8916, 0, none⟩)), (19, .agg #[.slice none 0 0, .int .i64 0, .int .i64 0]), (20, .slice p8920 ([] : List Int).length c8921)] w8940 (by kernel_rfl) ?_
      refine W_store _ _ _ true 3 b8916 0 [.slice none 0 0, .int .i64 0, .int .i64 0] 27 (.agg #[.slice none 0 0, .int .i64 0, .int .i64 0]) 1 [.slice none 0 0, .int .i64 0, .int .i64 0] M8941 (by kernel_rfl) rfl (by kernel_rfl) (by kernel_rfl) (by kernel_rfl) (by kernel_rfl) (by kernel_rfl) (by kernel_rfl) (by kernel_rfl) (by kernel_rfl) ?_
      intro w8946 M8947
      refine W_run 2 [(4, .pointer (some ⟨b8916, 0, none⟩)), (5, .slice p8920 ([] : List Int).length c8921), (6, .bool false)] w8946 (by kernel_rfl) ?_
      refine W_nil ?_
      refine N_then ?_
      refine G_ret ?_
      refine N_then_ret ?_
      obtain rfl := Option.some.inj hm
      refine N_ret [.agg #[.slice none 0 0, .int .i64 0, .int .i64 0], .slice p8920 ([] : List Int).length c8921, .bool false] (RVs_cons (RV_cell (g := true) (k := 3) (b := b8916) (off := 0) (cs := [.slice none 0 0, .int .i64 0, .int .i64 0]) (e := 27) (fr := (0, 0)) (v := .agg #[.slice none 0 0, .int .i64 0, .int .i64 0]) (M8947.blk 1 (b := b8916) (o := .cells ⟨[.slice none 0 0, .int .i64 0, .int .i64 0]⟩ 27 (0, 0)) (by kernel_rfl)) (by kernel_rfl) (by kernel_rfl) (by kernel_rfl)) (RVs_cons (RV_tmp (by kernel_rfl)) (RVs_cons (RV_tmp (by kernel_rfl)) RVs_nil))) ?_
      exact ⟨none, 0, [], p8920, c8921, sg8922, rfl, ownS_nil, ho8924, M8947.pick [100000, 2] (by kernel_rfl)⟩
    · refine G_cond_f (b := o8932) hc8944 (by kernel_rfl) ?_
      refine G_skip ?_
      refine N_then ?_
      refine G_seq ?_
      obtain ⟨r8950, hr8950, hm⟩ := gx_bind hm
      refine G_sub [(1, .int .i64 x8901), (2, .pointer (some ⟨b8911, 0, none⟩)), (4, .pointer (some ⟨b8916, 0, none⟩)), (7, .slice p8920 ([] : List Int).length c8921), (18, .bool o8932)] (by kernel_rfl) ?_
      refine G_dagL 9 [[], [0], [1], [], [3], [], [5], [4, 6], []] [[], [], [], [], [], [], [], [], []] [[], [], [], [], [], [], [], [], []] [[], [], [], [], [], [], [], [2], []] [[], [], [], [], [], [], [], [2], []] [[], [], [], [], [], [], [], [], []] (fun _ => []) (fun i => ([fun f v s => v = (.pointer (some ⟨b8911, 0, none⟩) : Value) ∧ s = [], fun f v s => v = (.slice p8898 x8896.Items.length c8899 : Value) ∧ s = [], fun f v s => ∃ (p8952 : Option Addr) (c8953 : Nat), v = (.slice p8952 r8950.length c8953 : Value) ∧ ownS encI r8950 p8952 c8953 s, fun f v s => v = (.pointer (some ⟨b8911, 1, none⟩) : Value) ∧ s = [], fun f v s => v = (.int .i64 x8896.Head : Value) ∧ s = [], fun f v s => v = (.pointer (some ⟨b8911, 2, none⟩) : Value) ∧ s = [], fun f v s => v = (.int .i64 x8896.Tail : Value) ∧ s = [], fun f v s => v = (.agg #[(atPath (f 2) []), .int .i64 x8896.Head, .int .i64 x8896.Tail] : Value) ∧ s = [], fun f v s => ∃ (b8959 : Nat), v = (.pointer (some ⟨b8959, 0, none⟩) : Value) ∧ s = [(b8959, .cells ⟨[.slice none 0 0, .int .i64 0, .int .i64 0]⟩ 27 (0, 0))]] : List ((Nat → Value) → Value → Seg → Prop)).getD i (fun _ _ _ => False)) (fun j f v => ∃ s, (fun i => ([fun f v s => v = (.pointer (some ⟨b8911, 0, none⟩) : Value) ∧ s = [], fun f v s => v = (.slice p8898 x8896.Items.length c8899 : Value) ∧ s = [], fun f v s => ∃ (p8952 : Option Addr) (c8953 : Nat), v = (.slice p8952 r8950.length c8953 : Value) ∧ ownS encI r8950 p8952 c8953 s, fun f v s => v = (.pointer (some ⟨b8911, 1, none⟩) : Value) ∧ s = [], fun f v s => v = (.int .i64 x8896.Head : Value) ∧ s = [], fun f v s => v = (.pointer (some ⟨b8911, 2, none⟩) : Value) ∧ s = [], fun f v s => v = (.int .i64 x8896.Tail : Value) ∧ s = [], fun f v s => v = (.agg #[(atPath (f 2) []), .int .i64 x8896.Head, .int .i64 x8896.Tail] : Value) ∧ s = [], fun f v s => ∃ (b8959 : Nat), v = (.pointer (some ⟨b8959, 0, none⟩) : Value) ∧ s = [(b8959, .cells ⟨[.slice none 0 0, .int .i64 0, .int .i64 0]⟩ 27 (0, 0))]] : List ((Nat → Value) → Value → Seg → Prop)).getD i (fun _ _ _ => False)) j f v s) [] [2, 7, 8] [2, 8] (fun _ _ _ s h => ⟨s, h⟩) (by kernel_rfl) (by kernel_rfl) (M8941.preNil 9) (by kernel_rfl) (by kernel_rfl) (by kernel_rfl) (by kernel_rfl) (allOb_cons ?_ (allOb_cons ?_ (allOb_cons ?_ (allOb_cons ?_ (allOb_cons ?_ (allOb_cons ?_ (allOb_cons ?_ (allOb_cons ?_ (allOb_cons ?_ allOb_nil))))))))) ?_
      · intro g8948 f8949
        intro R w8960 M8961
        refine W_run 1 [(21, .pointer (some ⟨b8911, 0, none⟩))] w8960 (by kernel_rfl) ?_
        exact W_nil (ob_end (.pointer (some ⟨b8911, 0, none⟩)) [] rfl (by kernel_rfl) ⟨by kernel_rfl, rfl⟩ M8961)
      · intro g8948 f8949
        intro v0_ hb0_
        obtain ⟨rfl, _⟩ := hb0_
        intro R w8964 M8965
        refine W_val (.slice p8898 x8896.Items.length c8899) w8964 (by kernel_rfl) (E_load (e := 27) (fr := (0, 0)) _ _ false 1 b8911 0 [.slice p8898 x8896.Items.length c8899, .int .i64 x8896.Head, .int .i64 x8896.Tail] (.slice p8898 x8896.Items.length c8899) rfl (by kernel_rfl) (by kernel_rfl) (by kernel_rfl) (M8965.blk 0 (b := b8911) (o := .cells ⟨[.slice p8898 x8896.Items.length c8899, .int .i64 x8896.Head, .int .i64 x8896.Tail]⟩ 27 (0, 0)) (by kernel_rfl))) ?_
        exact W_nil (ob_end (.slice p8898 x8896.Items.length c8899) [] rfl (by kernel_rfl) ⟨by kernel_rfl, rfl⟩ M8965)
      · intro g8948 f8949
        intro v1_ hb1_
        obtain ⟨rfl, _⟩ := hb1_
        intro R w8968 M8969
        refine W_call 62 #[.slice p8898 x8896.Items.length c8899] (by kernel_rfl) (by kernel_rfl) ?_
        refine (c_s_l1Own w8968 x8896.Items p8898 c8899 (h8900.mem0 M8969) hr8950).mono ?_
        rintro e_ w8970 ⟨p8952, c8953, sg8954, rfl, ho8955, K8972⟩
        refine ⟨_, rfl, ?_⟩
        exact W_nil (ob_end (.slice p8952 r8950.length c8953) sg8954 rfl (by kernel_rfl) ⟨p8952, c8953, rfl, ho8955⟩ (Mem.callMid M8969 K8972))
      · intro g8948 f8949
        intro R w8973 M8974
        refine W_run 1 [(24, .pointer (some ⟨b8911, 1, none⟩))] w8973 (by kernel_rfl) ?_
        exact W_nil (ob_end (.pointer (some ⟨b8911, 1, none⟩)) [] rfl (by kernel_rfl) ⟨by kernel_rfl, rfl⟩ M8974)
      · intro g8948 f8949
        intro v3_ hb3_
        obtain ⟨rfl, _⟩ := hb3_
        intro R w8977 M8978
        refine W_val (.int .i64 x8896.Head) w8977 (by kernel_rfl) (E_load (e := 27) (fr := (0, 0)) _ _ false 1 b8911 1 [.slice p8898 x8896.Items.length c8899, .int .i64 x8896.Head, .int .i64 x8896.Tail] (.int .i64 x8896.Head) rfl (by kernel_rfl) (by kernel_rfl) (by kernel_rfl) (M8978.blk 0 (b := b8911) (o := .cells ⟨[.slice p8898 x8896.Items.length c8899, .int .i64 x8896.Head, .int .i64 x8896.Tail]⟩ 27 (0, 0)) (by kernel_rfl))) ?_
        exact W_nil (ob_end (.int .i64 x8896.Head) [] rfl (by kernel_rfl) ⟨by kernel_rfl, rfl⟩ M8978)
      · intro g8948 f8949
        intro R w8981 M8982
        refine W_run 1 [(26, .pointer (some ⟨b8911, 2, none⟩))] w8981 (by kernel_rfl) ?_
        exact W_nil (ob_end (.pointer (some ⟨b8911, 2, none⟩)) [] rfl (by kernel_rfl) ⟨by kernel_rfl, rfl⟩ M8982)
      · intro g8948 f8949
        intro v5_ hb5_
        obtain ⟨rfl, _⟩ := hb5_
        intro R w8985 M8986
        refine W_val (.int .i64 x8896.Tail) w8985 (by kernel_rfl) (E_load (e := 27) (fr := (0, 0)) _ _ false 1 b8911 2 [.slice p8898 x8896.Items.length c8899, .int .i64 x8896.Head, .int .i64 x8896.Tail] (.int .i64 x8896.Tail) rfl (by kernel_rfl) (by kernel_rfl) (by kernel_rfl) (M8986.blk 0 (b := b8911) (o := .cells ⟨[.slice p8898 x8896.Items.length c8899, .int .i64 x8896.Head, .int .i64 x8896.Tail]⟩ 27 (0, 0)) (by kernel_rfl))) ?_
        exact W_nil (ob_end (.int .i64 x8896.Tail) [] rfl (by kernel_rfl) ⟨by kernel_rfl, rfl⟩ M8986)
      · intro g8948 f8949
        intro v2_ hb2_
        obtain ⟨_, p8952, c8953, rfl, _⟩ := hb2_
        intro v4_ hb4_
        obtain ⟨rfl, _⟩ := hb4_
        intro v6_ hb6_
        obtain ⟨rfl, _⟩ := hb6_
        intro R w8989 M8990
        refine W_run 1 [(28, .agg #[.slice p8952 r8950.length c8953, .int .i64 x8896.Head, .int .i64 x8896.Tail])] w8989 (by kernel_rfl) ?_
        exact W_nil (ob_end (.agg #[.slice p8952 r8950.length c8953, .int .i64 x8896.Head, .int .i64 x8896.Tail]) [] rfl (by kernel_rfl) ⟨by kernel_rfl, rfl⟩ M8990)
      · intro g8948 f8949
        intro R w8993 M8994
        refine W_new (fun b => .pointer (some ⟨b, 0, none⟩)) (.cells ⟨[.slice none 0 0, .int .i64 0, .int .i64 0]⟩ 27 (0, 0)) M8994 rfl (by kernel_rfl) (by kernel_rfl) ?_
        intro b8959 w8995 M8996
        exact W_nil (ob_end (.pointer (some ⟨b8959, 0, none⟩)) [(b8959, .cells ⟨[.slice none 0 0, .int .i64 0, .int .i64 0]⟩ 27 (0, 0))] rfl (by kernel_rfl) ⟨b8959, rfl, rfl⟩ (Mem.mid M8996))
      · intro g8948 f8949
        intro v2_ hb2_
        obtain ⟨p8952, c8953, rfl, ho8955⟩ := hb2_
        intro v7_ hb7_
        obtain ⟨hv7_, _⟩ := hb7_
        obtain rfl : v7_ = (.agg #[.slice p8952 r8950.length c8953, .int .i64 x8896.Head, .int .i64 x8896.Tail] : Value) := hv7_.trans (by kernel_rfl)
        intro v8_ hb8_
        obtain ⟨b8959, rfl, hs8_⟩ := hb8_
        intro w8997 M8998
        have M8999 : Mem [] w w8997 [[(b8911, .cells ⟨[.slice p8898 x8896.Items.length c8899, .int .i64 x8896.Head, .int .i64 x8896.Tail]⟩ 27 (0, 0))], [(b8916, .cells ⟨[.slice none 0 0, .int .i64 0, .int .i64 0]⟩ 27 (0, 0))], sg8922, (g8948 2), (g8948 8)] := M8998
        rw [hs8_] at M8999
        refine W_store _ _ _ true 3 b8959 0 [.slice none 0 0, .int .i64 0, .int .i64 0] 27 (.agg #[.slice p8952 r8950.length c8953, .int .i64 x8896.Head, .int .i64 x8896.Tail]) 4 [.slice p8952 r8950.length c8953, .int .i64 x8896.Head, .int .i64 x8896.Tail] M8999 (by kernel_rfl) rfl (by kernel_rfl) (by kernel_rfl) (by kernel_rfl) (by kernel_rfl) (by kernel_rfl) (by kernel_rfl) (by kernel_rfl) (by kernel_rfl) ?_
        intro w9000 M9001
        refine W_nil ?_
        refine N_then ?_
        refine G_seq ?_
        obtain ⟨out9121, hw9122, hmo9123⟩ := gx_bind hm
        refine G_meet (fun a w' => ∃ (p9135 : Option Addr), ∃ (c9136 : Nat), ∃ (sg9137 : Seg), ∃ (p9140 : Option Addr), ∃ (c9141 : Nat), ∃ (sg9142 : Seg), ownS encI out9121.1 p9135 c9136 sg9137 ∧ ownS encI out9121.2.1 p9140 c9141 sg9142 ∧ Mem [] w w' [[(b8916, .cells ⟨[.slice none 0 0, .int .i64 0, .int .i64 0]⟩ 27 (0, 0))], [(b8959, .cells ⟨[.slice p9140 out9121.2.1.length c9141, .int .i64 out9121.2.2.1, .int .i64 out9121.2.2.2]⟩ 27 (0, 0))], sg9137, sg9142] ∧ Sat Try.f30.ntmps [(4, .pointer (some ⟨b8916, 0, none⟩)), (7, .slice p9135 out9121.1.length c9136), (8, .pointer (some ⟨b8959, 0, none⟩))] a) ?_ ?_
        · refine G_block ?_
          refine G_while (σ := List Int × List Int × Int × Int) (ρ := List Int × List Int × Int × Int) (fun s9114 a w' => ∃ (p9124 : Option Addr), ∃ (c9125 : Nat), ∃ (sg9126 : Seg), ∃ (p9129 : Option Addr), ∃ (c9130 : Nat), ∃ (sg9131 : Seg), ownS encI s9114.1 p9124 c9125 sg9126 ∧ ownS encI s9114.2.1 p9129 c9130 sg9131 ∧ Mem [] w w' [[(b8916, .cells ⟨[.slice none 0 0, .int .i64 0, .int .i64 0]⟩ 27 (0, 0))], [(b8959, .cells ⟨[.slice p9129 s9114.2.1.length c9130, .int .i64 s9114.2.2.1, .int .i64 s9114.2.2.2]⟩ 27 (0, 0))], sg9126, sg9131] ∧ Sat Try.f30.ntmps [(1, .int .i64 x8901), (4, .pointer (some ⟨b8916, 0, none⟩)), (7, .slice p9124 s9114.1.length c9125), (8, .pointer (some ⟨b8959, 0, none⟩))] a) hw9122 (fun a ha => ⟨p8920, c8921, sg8922, p8952, c8953, (g8948 2), ho8924, ho8955, M9001.pick [1, 4, 2, 3] (by kernel_rfl), ha.sub (by kernel_rfl)⟩) ?_
          clear hm
          intro s9114 x9115 hm hout9116 a9117 w9118 ⟨p9124, c9125, sg9126, p9129, c9130, sg9131, ho9127, ho9132, M9119, hS9120⟩
          refine G_use hS9120 ?_
          refine G_seq ?_
          refine G_seq ?_
          obtain ⟨o9150, ho9151, hm9152⟩ := gx_bind hm
          refine G_meet (fun a w' => Mem [] w w' [[(b8916, .cells ⟨[.slice none 0 0, .int .i64 0, .int .i64 0]⟩ 27 (0, 0))], [(b8959, .cells ⟨[.slice p9129 s9114.2.1.length c9130, .int .i64 s9114.2.2.1, .int .i64 s9114.2.2.2]⟩ 27 (0, 0))], sg9126, sg9131] ∧ Sat Try.f30.ntmps [(1, .int .i64 x8901), (4, .pointer (some ⟨b8916, 0, none⟩)), (7, .slice p9124 s9114.1.length c9125), (8, .pointer (some ⟨b8959, 0, none⟩)), (37, .bool o9150)] a) ?_ ?_
          · have hm := ho9151
            refine G_region ?_
            refine W_run 5 [(1, .int .i64 x8901), (4, .pointer (some ⟨b8916, 0, none⟩)), (7, .slice p9124 s9114.1.length c9125), (8, .pointer (some ⟨b8959, 0, none⟩)), (33, .bool (decide ((s9114.1.length : Int) < x8901)))] w9118 (by kernel_rfl) ?_
            rcases gx_bif hm with ⟨hc9153, hm⟩ | ⟨hc9153, hm⟩
            · refine W_known 33 true (by kernel_rfl) hc9153 ?_
              refine W_val (.agg #[.slice p9129 s9114.2.1.length c9130, .int .i64 s9114.2.2.1, .int .i64 s9114.2.2.2]) w9118 (by kernel_rfl) (E_load (e := 27) (fr := (0, 0)) _ _ true 3 b8959 0 [.slice p9129 s9114.2.1.length c9130, .int .i64 s9114.2.2.1, .int .i64 s9114.2.2.2] (.agg #[.slice p9129 s9114.2.1.length c9130, .int .i64 s9114.2.2.1, .int .i64 s9114.2.2.2]) rfl (by kernel_rfl) (by kernel_rfl) (by kernel_rfl) (M9119.blk 1 (b := b8959) (o := .cells ⟨[.slice p9129 s9114.2.1.length c9130, .int .i64 s9114.2.2.1, .int .i64 s9114.2.2.2]⟩ 27 (0, 0)) (by kernel_rfl))) ?_
              obtain ⟨r9154, hr9154, hm⟩ := gx_bind hm
              refine W_call 63 #[.agg #[.slice p9129 s9114.2.1.length c9130, .int .i64 s9114.2.2.1, .int .i64 s9114.2.2.2]] (by kernel_rfl) (by kernel_rfl) ?_
              refine (c_s_l20Count w9118 (⟨s9114.2.1, s9114.2.2.1, s9114.2.2.2⟩ : Ring) p9129 c9130 (ho9132.rd M9119 3 (by kernel_rfl)) hr9154).mono ?_
              rintro e_ w9155 ⟨rfl, K9156⟩
              have M9157 := M9119.call0 K9156
              refine ⟨_, rfl, ?_⟩
              refine W_run 2 [(1, .int .i64 x8901), (4, .pointer (some ⟨b8916, 0, none⟩)), (7, .slice p9124 s9114.1.length c9125), (8, .pointer (some ⟨b8959, 0, none⟩)), (37, .bool (decide (r9154 > 0)))] w9155 (by kernel_rfl) ?_
              refine W_nil ?_
              obtain rfl := Option.some.inj hm
              exact N_meet fun a ha => ⟨M9157.pick [0, 1, 2, 3] (by kernel_rfl), ha.sub (by kernel_rfl)⟩
            · refine W_known 33 false (by kernel_rfl) hc9153 ?_
              refine W_run 4 [(1, .int .i64 x8901), (4, .pointer (some ⟨b8916, 0, none⟩)), (7, .slice p9124 s9114.1.length c9125), (8, .pointer (some ⟨b8959, 0, none⟩)), (37, .bool false)] w9118 (by kernel_rfl) ?_
              refine W_nil ?_
              obtain rfl := Option.some.inj hm
              exact N_meet fun a ha => ⟨M9119.pick [0, 1, 2, 3] (by kernel_rfl), ha.sub (by kernel_rfl)⟩
          · intro a9160 w9158 ⟨M9159, hS9161⟩
            refine N_use hS9161 ?_
            have hm := hm9152
            refine N_then ?_
            rcases gx_bif hm with ⟨hc9162, hm⟩ | ⟨hc9162, hm⟩
            · refine G_cond_t (b := o9150) hc9162 (by kernel_rfl) ?_
              refine G_skip ?_
              refine N_then ?_
              refine G_block ?_
              refine G_seq ?_
              refine G_region ?_
              refine W_val (.agg #[.slice p9129 s9114.2.1.length c9130, .int .i64 s9114.2.2.1, .int .i64 s9114.2.2.2]) w9158 (by kernel_rfl) (E_load (e := 27) (fr := (0, 0)) _ _ true 3 b8959 0 [.slice p9129 s9114.2.1.length c9130, .int .i64 s9114.2.2.1, .int .i64 s9114.2.2.2] (.agg #[.slice p9129 s9114.2.1.length c9130, .int .i64 s9114.2.2.1, .int .i64 s9114.2.2.2]) rfl (by kernel_rfl) (by kernel_rfl) (by kernel_rfl) (M9159.blk 1 (b := b8959) (o := .cells ⟨[.slice p9129 s9114.2.1.length c9130, .int .i64 s9114.2.2.1, .int .i64 s9114.2.2.2]⟩ 27 (0, 0)) (by kernel_rfl))) ?_
              obtain ⟨r9163, hr9163, hm⟩ := gx_bind hm
              refine W_call 64 #[.agg #[.slice p9129 s9114.2.1.length c9130, .int .i64 s9114.2.2.1, .int .i64 s9114.2.2.2]] (by kernel_rfl) (by kernel_rfl) ?_
              refine (c_s_l20Take w9158 (⟨s9114.2.1, s9114.2.2.1, s9114.2.2.2⟩ : Ring) p9129 c9130 (ho9132.rd M9159 3 (by kernel_rfl)) hr9163).mono ?_
              rintro e_ w9169 ⟨p9165, c9166, sg9167, rfl, ho9168, K9170⟩
              have M9171 := M9159.call K9170
              refine ⟨_, rfl, ?_⟩
              refine W_run 3 [(1, .int .i64 x8901), (4, .pointer (some ⟨b8916, 0, none⟩)), (7, .slice p9124 s9114.1.length c9125), (8, .pointer (some ⟨b8959, 0, none⟩)), (41, .agg #[.slice p9165 r9163.1.Items.length c9166, .int .i64 r9163.1.Head, .int .i64 r9163.1.Tail]), (42, .int .i64 r9163.2)] w9169 (by kernel_rfl) ?_
              refine W_new (fun b => .pointer (some ⟨b, 0, none⟩)) (.cells ⟨[.slice none 0 0, .int .i64 0, .int .i64 0]⟩ 27 (0, 0)) M9171 rfl (by kernel_rfl) (by kernel_rfl) ?_
              intro b9174 w9175 M9176
              refine W_store _ _ _ true 3 b9174 0 [.slice none 0 0, .int .i64 0, .int .i64 0] 27 (.agg #[.slice p9165 r9163.1.Items.length c9166, .int .i64 r9163.1.Head, .int .i64 r9163.1.Tail]) 5 [.slice p9165 r9163.1.Items.length c9166, .int .i64 r9163.1.Head, .int .i64 r9163.1.Tail] M9176 (by kernel_rfl) rfl (by kernel_rfl) (by kernel_rfl) (by kernel_rfl) (by kernel_rfl) (by kernel_rfl) (by kernel_rfl) (by kernel_rfl) (by kernel_rfl) ?_
              intro w9177 M9178
              refine W_run 1 [(1, .int .i64 x8901), (4, .pointer (some ⟨b8916, 0, none⟩)), (7, .slice p9124 s9114.1.length c9125), (8, .pointer (some ⟨b8959, 0, none⟩)), (9, .pointer (some ⟨b9174, 0, none⟩)), (10, .int .i64 r9163.2)] w9177 (by kernel_rfl) ?_
              refine W_nil ?_
              refine N_then ?_
              refine G_seq ?_
              refine G_region ?_
              refine W_val (.agg #[.slice p9165 r9163.1.Items.length c9166, .int .i64 r9163.1.Head, .int .i64 r9163.1.Tail]) w9177 (by kernel_rfl) (E_load (e := 27) (fr := (0, 0)) _ _ true 3 b9174 0 [.slice p9165 r9163.1.Items.length c9166, .int .i64 r9163.1.Head, .int .i64 r9163.1.Tail] (.agg #[.slice p9165 r9163.1.Items.length c9166, .int .i64 r9163.1.Head, .int .i64 r9163.1.Tail]) rfl (by kernel_rfl) (by kernel_rfl) (by kernel_rfl) (M9178.blk 5 (b := b9174) (o := .cells ⟨[.slice p9165 r9163.1.Items.length c9166, .int .i64 r9163.1.Head, .int .i64 r9163.1.Tail]⟩ 27 (0, 0)) (by kernel_rfl))) ?_
              refine W_store _ _ _ true 3 b8959 0 [.slice p9129 s9114.2.1.length c9130, .int .i64 s9114.2.2.1, .int .i64 s9114.2.2.2] 27 (.agg #[.slice p9165 r9163.1.Items.length c9166, .int .i64 r9163.1.Head, .int .i64 r9163.1.Tail]) 1 [.slice p9165 r9163.1.Items.length c9166, .int .i64 r9163.1.Head, .int .i64 r9163.1.Tail] M9178 (by kernel_rfl) rfl (by kernel_rfl) (by kernel_rfl) (by kernel_rfl) (by kernel_rfl) (by kernel_rfl) (by kernel_rfl) (by kernel_rfl) (by kernel_rfl) ?_
              intro w9179 M9180
              refine W_nil ?_
              refine N_then ?_
              refine G_region ?_
              refine W_run 2 [(1, .int .i64 x8901), (4, .pointer (some ⟨b8916, 0, none⟩)), (7, .slice p9124 s9114.1.length c9125), (8, .pointer (some ⟨b8959, 0, none⟩)), (44, .slice p9124 s9114.1.length c9125), (45, .int .i64 r9163.2)] w9179 (by kernel_rfl) ?_
              refine W_lit (E := encI) [r9163.2] 1 [.int .i64 r9163.2] 3 M9180 (by kernel_rfl) (by kernel_rfl) (by kernel_rfl) (by kernel_rfl) (by kernel_rfl) ?_
              intro p9181 c9182 sg9183 w9184 ho9185 M9186
              obtain ⟨ap9188, hap9188, hm⟩ := gx_bind hm
              refine W_append (E := encI) _ _ _ 8 [.int .i64 0] 2 c9182 M9186 ho9127 (by kernel_rfl) (by kernel_rfl) (by kernel_rfl) rfl (by kernel_rfl) (by kernel_rfl) (by kernel_rfl) (by kernel_rfl) (by kernel_rfl) (by kernel_rfl) (ho9185.rd M9186 6 (by kernel_rfl)) hap9188 ?_
              intro p9189 c9190 sg9191 w9192 ho9193 M9194
              refine W_run 1 [(1, .int .i64 x8901), (4, .pointer (some ⟨b8916, 0, none⟩)), (7, .slice p9189 ap9188.length c9190), (8, .pointer (some ⟨b8959, 0, none⟩))] w9192 (by kernel_rfl) ?_
              refine W_nil ?_
              refine N_block ?_
              obtain rfl := Option.some.inj hm
              exact N_loop fun a ha => ⟨_, rfl, p9189, c9190, sg9191, p9165, c9166, sg9167, ho9193, ho9168, M9194.pick [0, 1, 2, 4] (by kernel_rfl), ha.sub (by kernel_rfl)⟩
            · refine G_cond_f (b := o9150) hc9162 (by kernel_rfl) ?_
              refine G_exit ?_
              refine N_then_exit ?_
              refine N_then_exit ?_
              refine N_block_eq ?_
              obtain rfl := Option.some.inj hm
              obtain rfl := hout9116 _ rfl
              exact N_meet fun a ha => ⟨p9124, c9125, sg9126, p9129, c9130, sg9131, ho9127, ho9132, M9159.pick [0, 1, 2, 3] (by kernel_rfl), ha.sub (by kernel_rfl)⟩
        · intro a9196 w9197 ⟨p9135, c9136, sg9137, p9140, c9141, sg9142, ho9138, ho9143, M9198, hS9199⟩
          refine N_use hS9199 ?_
          have hm := hmo9123
          refine N_then ?_
          refine G_seq ?_
          refine G_region ?_
          refine W_val (.agg #[.slice p9140 out9121.2.1.length c9141, .int .i64 out9121.2.2.1, .int .i64 out9121.2.2.2]) w9197 (by kernel_rfl) (E_load (e := 27) (fr := (0, 0)) _ _ true 3 b8959 0 [.slice p9140 out9121.2.1.length c9141, .int .i64 out9121.2.2.1, .int .i64 out9121.2.2.2] (.agg #[.slice p9140 out9121.2.1.length c9141, .int .i64 out9121.2.2.1, .int .i64 out9121.2.2.2]) rfl (by kernel_rfl) (by kernel_rfl) (by kernel_rfl) (M9198.blk 1 (b := b8959) (o := .cells ⟨[.slice p9140 out9121.2.1.length c9141, .int .i64 out9121.2.2.1, .int .i64 out9121.2.2.2]⟩ 27 (0, 0)) (by kernel_rfl))) ?_
          refine W_run 1 [(4, .pointer (some ⟨b8916, 0, none⟩)), (48, .agg #[.slice p9140 out9121.2.1.length c9141, .int .i64 out9121.2.2.1, .int .i64 out9121.2.2.2]), (49, .slice p9135 out9121.1.length c9136)] w9197 (by kernel_rfl) ?_
          refine W_store _ _ _ true 3 b8916 0 [.slice none 0 0, .int .i64 0, .int .i64 0] 27 (.agg #[.slice p9140 out9121.2.1.length c9141, .int .i64 out9121.2.2.1, .int .i64 out9121.2.2.2]) 0 [.slice p9140 out9121.2.1.length c9141, .int .i64 out9121.2.2.1, .int .i64 out9121.2.2.2] M9198 (by kernel_rfl) rfl (by kernel_rfl) (by kernel_rfl) (by kernel_rfl) (by kernel_rfl) (by kernel_rfl) (by kernel_rfl) (by kernel_rfl) (by kernel_rfl) ?_
          intro w9200 M9201
          refine W_run 2 [(4, .pointer (some ⟨b8916, 0, none⟩)), (5, .slice p9135 out9121.1.length c9136), (6, .bool true)] w9200 (by kernel_rfl) ?_
          refine W_nil ?_
          refine N_then ?_
          refine G_ret ?_
          obtain rfl := Option.some.inj hm
          refine N_ret [.agg #[.slice p9140 out9121.2.1.length c9141, .int .i64 out9121.2.2.1, .int .i64 out9121.2.2.2], .slice p9135 out9121.1.length c9136, .bool true] (RVs_cons (RV_cell (g := true) (k := 3) (b := b8916) (off := 0) (cs := [.slice p9140 out9121.2.1.length c9141, .int .i64 out9121.2.2.1, .int .i64 out9121.2.2.2]) (e := 27) (fr := (0, 0)) (v := .agg #[.slice p9140 out9121.2.1.length c9141, .int .i64 out9121.2.2.1, .int .i64 out9121.2.2.2]) (M9201.blk 0 (b := b8916) (o := .cells ⟨[.slice p9140 out9121.2.1.length c9141, .int .i64 out9121.2.2.1, .int .i64 out9121.2.2.2]⟩ 27 (0, 0)) (by kernel_rfl)) (by kernel_rfl) (by kernel_rfl) (by kernel_rfl)) (RVs_cons (RV_tmp (by kernel_rfl)) (RVs_cons (RV_tmp (by kernel_rfl)) RVs_nil))) ?_
          exact ⟨p9140, c9141, sg9142, p9135, c9136, sg9137, rfl, ho9143, ho9138, M9201.pick [3, 2] (by kernel_rfl)⟩
end Go.Proofs.Ytopnablbecepjaa
