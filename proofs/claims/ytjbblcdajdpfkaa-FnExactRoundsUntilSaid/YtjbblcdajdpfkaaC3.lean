/- The walks, printed by program: whenever the model gives r, the call returns r. Part 3. -/
import Derived.Test.YtjbblcdajdpfkaaM
import Derived.Test.YtjbblcdajdpfkaaProg
import Derived.Test.YtjbblcdajdpfkaaC2
set_option linter.unusedVariables false
set_option maxRecDepth 100000
set_option maxHeartbeats 4000000
namespace Go.Proofs.Ytjbblcdajdpfkaa
open Go.Gx
theorem c_l_toStore (w : World) (x3536 : Store) {r : Store} (hm : M.l_toStore x3536 = some r) :
    Calls Try.prog 31 #[.agg #[.int .i64 x3536.Word, .int .i64 x3536.Value]] w fun e w' => e = .returned (.agg #[.int .i64 r.Word, .int .i64 r.Value]) ∧ Mem [] w w' [] := by
  unfold M.l_toStore at hm
  refine C_enter Try.func31 rfl (by kernel_rfl) ?_
  have M0 := Mem.refl [] w
  refine G_seq ?_
  refine G_region ?_
  refine W_new (fun b => .pointer (some ⟨b, 0, none⟩)) (.cells ⟨[.int .i64 x3536.Word, .int .i64 x3536.Value]⟩ 44 (0, 0)) M0 rfl (by kernel_rfl) (by kernel_rfl) ?_
  intro b3538 w3539 M3540
  refine W_new (fun b => .pointer (some ⟨b, 0, none⟩)) (.cells ⟨[.int .i64 0, .int .i64 0]⟩ 46 (0, 0)) M3540 rfl (by kernel_rfl) (by kernel_rfl) ?_
  intro b3542 w3543 M3544
  refine W_nil ?_
  refine N_then ?_
  refine G_seq ?_
  refine G_region ?_
  refine W_new (fun b => .pointer (some ⟨b, 0, none⟩)) (.cells ⟨[.int .i64 0, .int .i64 0]⟩ 46 (0, 0)) M3544 rfl (by kernel_rfl) (by kernel_rfl) ?_
  intro b3546 w3547 M3548
  refine W_nil ?_
  refine N_then ?_
  refine G_seq ?_
  refine G_region ?_
  refine W_run 1 [(1, .pointer (some ⟨b3538, 0, none⟩)), (2, .pointer (some ⟨b3542, 0, none⟩)), (3, .pointer (some ⟨b3546, 0, none⟩)), (4, .pointer (some ⟨b3538, 0, none⟩))] w3547 (by kernel_rfl) ?_
  refine W_val (.int .i64 x3536.Word) w3547 (by kernel_rfl) (E_load (e := 44) (fr := (0, 0)) _ _ false 1 b3538 0 [.int .i64 x3536.Word, .int .i64 x3536.Value] (.int .i64 x3536.Word) rfl (by kernel_rfl) (by kernel_rfl) (by kernel_rfl) (M3548.blk 0 (b := b3538) (o := .cells ⟨[.int .i64 x3536.Word, .int .i64 x3536.Value]⟩ 44 (0, 0)) (by kernel_rfl))) ?_
  refine W_run 1 [(1, .pointer (some ⟨b3538, 0, none⟩)), (2, .pointer (some ⟨b3542, 0, none⟩)), (3, .pointer (some ⟨b3546, 0, none⟩)), (5, .int .i64 x3536.Word), (6, .pointer (some ⟨b3546, 0, none⟩))] w3547 (by kernel_rfl) ?_
  refine W_store _ _ _ false 1 b3546 0 [.int .i64 0, .int .i64 0] 46 (.int .i64 x3536.Word) 2 [.int .i64 x3536.Word, .int .i64 0] M3548 (by kernel_rfl) rfl (by kernel_rfl) (by kernel_rfl) (by kernel_rfl) (by kernel_rfl) (by kernel_rfl) (by kernel_rfl) (by kernel_rfl) (by kernel_rfl) ?_
  intro w3549 M3550
  refine W_nil ?_
  refine N_then ?_
  refine G_seq ?_
  refine G_region ?_
  refine W_run 1 [(2, .pointer (some ⟨b3542, 0, none⟩)), (3, .pointer (some ⟨b3546, 0, none⟩)), (7, .pointer (some ⟨b3538, 1, none⟩))] w3549 (by kernel_rfl) ?_
  refine W_val (.int .i64 x3536.Value) w3549 (by kernel_rfl) (E_load (e := 44) (fr := (0, 0)) _ _ false 1 b3538 1 [.int .i64 x3536.Word, .int .i64 x3536.Value] (.int .i64 x3536.Value) rfl (by kernel_rfl) (by kernel_rfl) (by kernel_rfl) (M3550.blk 0 (b := b3538) (o := .cells ⟨[.int .i64 x3536.Word, .int .i64 x3536.Value]⟩ 44 (0, 0)) (by kernel_rfl))) ?_
  refine W_run 1 [(2, .pointer (some ⟨b3542, 0, none⟩)), (3, .pointer (some ⟨b3546, 0, none⟩)), (8, .int .i64 x3536.Value), (9, .pointer (some ⟨b3546, 1, none⟩))] w3549 (by kernel_rfl) ?_
  refine W_store _ _ _ false 1 b3546 1 [.int .i64 x3536.Word, .int .i64 0] 46 (.int .i64 x3536.Value) 2 [.int .i64 x3536.Word, .int .i64 x3536.Value] M3550 (by kernel_rfl) rfl (by kernel_rfl) (by kernel_rfl) (by kernel_rfl) (by kernel_rfl) (by kernel_rfl) (by kernel_rfl) (by kernel_rfl) (by kernel_rfl) ?_
  intro w3551 M3552
  refine W_nil ?_
  refine N_then ?_
  refine G_seq ?_
  refine G_region ?_
  refine W_val (.agg #[.int .i64 x3536.Word, .int .i64 x3536.Value]) w3551 (by kernel_rfl) (E_load (e := 46) (fr := (0, 0)) _ _ true 2 b3546 0 [.int .i64 x3536.Word, .int .i64 x3536.Value] (.agg #[.int .i64 x3536.Word, .int .i64 x3536.Value]) rfl (by kernel_rfl) (by kernel_rfl) (by kernel_rfl) (M3552.blk 2 (b := b3546) (o := .cells ⟨[.int .i64 x3536.Word, .int .i64 x3536.Value]⟩ 46 (0, 0)) (by kernel_rfl))) ?_
  refine W_store _ _ _ true 2 b3542 0 [.int .i64 0, .int .i64 0] 46 (.agg #[.int .i64 x3536.Word, .int .i64 x3536.Value]) 1 [.int .i64 x3536.Word, .int .i64 x3536.Value] M3552 (by kernel_rfl) rfl (by kernel_rfl) (by kernel_rfl) (by kernel_rfl) (by kernel_rfl) (by kernel_rfl) (by kernel_rfl) (by kernel_rfl) (by kernel_rfl) ?_
  intro w3553 M3554
  refine W_nil ?_
  refine N_then ?_
  refine G_ret ?_
  obtain rfl := Option.some.inj hm
  refine N_ret [.agg #[.int .i64 x3536.Word, .int .i64 x3536.Value]] (RVs_cons (RV_cell (g := true) (k := 2) (b := b3542) (off := 0) (cs := [.int .i64 x3536.Word, .int .i64 x3536.Value]) (e := 46) (fr := (0, 0)) (v := .agg #[.int .i64 x3536.Word, .int .i64 x3536.Value]) (M3554.blk 1 (b := b3542) (o := .cells ⟨[.int .i64 x3536.Word, .int .i64 x3536.Value]⟩ 46 (0, 0)) (by kernel_rfl)) (by kernel_rfl) (by kernel_rfl) (by kernel_rfl)) RVs_nil) ?_
  exact ⟨rfl, M3554.pick [] (by kernel_rfl)⟩
theorem c_s_l19Store (w : World) (x3602 : Copying) (p3604 : Option Addr) (c3605 : Nat) (h3606 : rdS encI w x3602.Memory p3604 c3605) (p3608 : Option Addr) (c3609 : Nat) (h3610 : rdS encI w x3602.Copy p3608 c3609) (p3612 : Option Addr) (c3613 : Nat) (h3614 : rdS encB w x3602.Dirty p3612 c3613) (x3615 : Store) {r : Bool} (hm : M.s_l19Store x3602 x3615 = some r) :
    Calls Try.prog 68 #[.agg #[.slice p3604 x3602.Memory.length c3605, .slice p3608 x3602.Copy.length c3609, .slice p3612 x3602.Dirty.length c3613], .agg #[.int .i64 x3615.Word, .int .i64 x3615.Value]] w fun e w' => e = .returned (.bool r) ∧ Mem [] w w' [] := by
  unfold M.s_l19Store at hm
  refine C_enter Try.func68 rfl (by kernel_rfl) ?_
  have M0 := Mem.refl [] w
  refine G_seq ?_
  refine G_region ?_
  refine W_new (fun b => .pointer (some ⟨b, 0, none⟩)) (.cells ⟨[.slice p3604 x3602.Memory.length c3605, .slice p3608 x3602.Copy.length c3609, .slice p3612 x3602.Dirty.length c3613]⟩ 28 (0, 0)) M0 rfl (by kernel_rfl) (by kernel_rfl) ?_
  intro b3617 w3618 M3619
  refine W_new (fun b => .pointer (some ⟨b, 0, none⟩)) (.cells ⟨[.int .i64 x3615.Word, .int .i64 x3615.Value]⟩ 46 (0, 0)) M3619 rfl (by kernel_rfl) (by kernel_rfl) ?_
  intro b3621 w3622 M3623
  refine W_run 1 [(2, .pointer (some ⟨b3617, 0, none⟩)), (3, .pointer (some ⟨b3621, 0, none⟩))] w3622 (by kernel_rfl) ?_
  refine W_nil ?_
  refine N_then ?_
  refine G_seq ?_
  obtain ⟨o3633, ho3634, hm3635⟩ := gx_bind hm
  refine G_meet (fun a w' => Mem [] w w' [] ∧ Sat Try.f68.ntmps [(4, .bool o3633)] a) ?_ ?_
  · have hm := ho3634
    refine G_region ?_
    refine W_run 1 [(2, .pointer (some ⟨b3617, 0, none⟩)), (3, .pointer (some ⟨b3621, 0, none⟩)), (5, .pointer (some ⟨b3621, 0, none⟩))] w3622 (by kernel_rfl) ?_
    refine W_val (.int .i64 x3615.Word) w3622 (by kernel_rfl) (E_load (e := 46) (fr := (0, 0)) _ _ false 1 b3621 0 [.int .i64 x3615.Word, .int .i64 x3615.Value] (.int .i64 x3615.Word) rfl (by kernel_rfl) (by kernel_rfl) (by kernel_rfl) (M3623.blk 1 (b := b3621) (o := .cells ⟨[.int .i64 x3615.Word, .int .i64 x3615.Value]⟩ 46 (0, 0)) (by kernel_rfl))) ?_
    refine W_run 1 [(3, .pointer (some ⟨b3621, 0, none⟩)), (6, .int .i64 x3615.Word), (7, .pointer (some ⟨b3617, 0, none⟩))] w3622 (by kernel_rfl) ?_
    refine W_val (.slice p3604 x3602.Memory.length c3605) w3622 (by kernel_rfl) (E_load (e := 28) (fr := (0, 0)) _ _ false 1 b3617 0 [.slice p3604 x3602.Memory.length c3605, .slice p3608 x3602.Copy.length c3609, .slice p3612 x3602.Dirty.length c3613] (.slice p3604 x3602.Memory.length c3605) rfl (by kernel_rfl) (by kernel_rfl) (by kernel_rfl) (M3623.blk 0 (b := b3617) (o := .cells ⟨[.slice p3604 x3602.Memory.length c3605, .slice p3608 x3602.Copy.length c3609, .slice p3612 x3602.Dirty.length c3613]⟩ 28 (0, 0)) (by kernel_rfl))) ?_
    refine W_run 2 [(3, .pointer (some ⟨b3621, 0, none⟩)), (6, .int .i64 x3615.Word), (10, .int .i64 (w64 ((x3602.Memory.length : Int) - 1)))] w3622 (by kernel_rfl) ?_
    obtain ⟨r3636, hr3636, hm⟩ := gx_bind hm
    refine W_call 73 #[.int .i64 x3615.Word, .int .i64 0, .int .i64 (w64 ((x3602.Memory.length : Int) - 1))] (by kernel_rfl) (by kernel_rfl) ?_
    refine (c_s_l1In w3622 x3615.Word 0 (w64 ((x3602.Memory.length : Int) - 1)) hr3636).mono ?_
    rintro e_ w3637 ⟨rfl, K3638⟩
    have M3639 := M3623.call0 K3638
    refine ⟨_, rfl, ?_⟩
    refine W_run 1 [(3, .pointer (some ⟨b3621, 0, none⟩)), (12, .bool r3636)] w3637 (by kernel_rfl) ?_
    rcases gx_bif hm with ⟨hc3640, hm⟩ | ⟨hc3640, hm⟩
    · refine W_known 12 true (by kernel_rfl) hc3640 ?_
      refine W_run 1 [(12, .bool true), (13, .pointer (some ⟨b3621, 1, none⟩))] w3637 (by kernel_rfl) ?_
      refine W_val (.int .i64 x3615.Value) w3637 (by kernel_rfl) (E_load (e := 46) (fr := (0, 0)) _ _ false 1 b3621 1 [.int .i64 x3615.Word, .int .i64 x3615.Value] (.int .i64 x3615.Value) rfl (by kernel_rfl) (by kernel_rfl) (by kernel_rfl) (M3639.blk 1 (b := b3621) (o := .cells ⟨[.int .i64 x3615.Word, .int .i64 x3615.Value]⟩ 46 (0, 0)) (by kernel_rfl))) ?_
      obtain ⟨r3641, hr3641, hm⟩ := gx_bind hm
      refine W_call 95 #[.int .i64 x3615.Value] (by kernel_rfl) (by kernel_rfl) ?_
      refine (c_s_l2Word16 w3637 x3615.Value hr3641).mono ?_
      rintro e_ w3642 ⟨rfl, K3643⟩
      have M3644 := M3639.call0 K3643
      refine ⟨_, rfl, ?_⟩
      refine W_run 2 [(4, .bool r3641)] w3642 (by kernel_rfl) ?_
      refine W_nil ?_
      obtain rfl := Option.some.inj hm
      exact N_meet fun a ha => ⟨M3644.pick [] (by kernel_rfl), ha.sub (by kernel_rfl)⟩
    · refine W_known 12 false (by kernel_rfl) hc3640 ?_
      refine W_run 5 [(4, .bool false)] w3637 (by kernel_rfl) ?_
      refine W_nil ?_
      obtain rfl := Option.some.inj hm
      exact N_meet fun a ha => ⟨M3639.pick [] (by kernel_rfl), ha.sub (by kernel_rfl)⟩
  · intro a3647 w3645 ⟨M3646, hS3648⟩
    refine N_use hS3648 ?_
    have hm := hm3635
    refine N_then ?_
    refine G_ret ?_
    obtain rfl := Option.some.inj hm
    refine N_ret [.bool o3633] (RVs_cons (RV_tmp (by kernel_rfl)) RVs_nil) ?_
    exact ⟨rfl, M3646.pick [] (by kernel_rfl)⟩
theorem c_s_l19Write (w : World) (x3675 : Copying) (p3677 : Option Addr) (c3678 : Nat) (h3679 : rdS encI w x3675.Memory p3677 c3678) (p3681 : Option Addr) (c3682 : Nat) (h3683 : rdS encI w x3675.Copy p3681 c3682) (p3685 : Option Addr) (c3686 : Nat) (h3687 : rdS encB w x3675.Dirty p3685 c3686) (x3688 : Store) {r : Copying} (hm : M.s_l19Write x3675 x3688 = some r) :
    Calls Try.prog 69 #[.agg #[.slice p3677 x3675.Memory.length c3678, .slice p3681 x3675.Copy.length c3682, .slice p3685 x3675.Dirty.length c3686], .agg #[.int .i64 x3688.Word, .int .i64 x3688.Value]] w fun e w' => ∃ (p3690 : Option Addr) (c3691 : Nat) (sg3692 : Seg), ∃ (p3694 : Option Addr) (c3695 : Nat) (sg3696 : Seg), ∃ (p3698 : Option Addr) (c3699 : Nat) (sg3700 : Seg), e = .returned (.agg #[.slice p3690 r.Memory.length c3691, .slice p3694 r.Copy.length c3695, .slice p3698 r.Dirty.length c3699]) ∧ ownS encI r.Memory p3690 c3691 sg3692 ∧ ownS encI r.Copy p3694 c3695 sg3696 ∧ ownS encB r.Dirty p3698 c3699 sg3700 ∧ Mem [] w w' [sg3692, sg3696, sg3700] := by
  unfold M.s_l19Write at hm
  refine C_enter Try.func69 rfl (by kernel_rfl) ?_
  have M0 := Mem.refl [] w
  refine G_seq ?_
  refine G_region ?_
  refine W_new (fun b => .pointer (some ⟨b, 0, none⟩)) (.cells ⟨[.slice p3677 x3675.Memory.length c3678, .slice p3681 x3675.Copy.length c3682, .slice p3685 x3675.Dirty.length c3686]⟩ 28 (0, 0)) M0 rfl (by kernel_rfl) (by kernel_rfl) ?_
  intro b3702 w3703 M3704
  refine W_new (fun b => .pointer (some ⟨b, 0, none⟩)) (.cells ⟨[.int .i64 x3688.Word, .int .i64 x3688.Value]⟩ 46 (0, 0)) M3704 rfl (by kernel_rfl) (by kernel_rfl) ?_
  intro b3706 w3707 M3708
  refine W_new (fun b => .pointer (some ⟨b, 0, none⟩)) (.cells ⟨[.slice none 0 0, .slice none 0 0, .slice none 0 0]⟩ 28 (0, 0)) M3708 rfl (by kernel_rfl) (by kernel_rfl) ?_
  intro b3713 w3714 M3715
  refine W_nil ?_
  refine N_then ?_
  refine G_seq ?_
  refine G_region ?_
  refine W_val (.agg #[.slice p3677 x3675.Memory.length c3678, .slice p3681 x3675.Copy.length c3682, .slice p3685 x3675.Dirty.length c3686]) w3714 (by kernel_rfl) (E_load (e := 28) (fr := (0, 0)) _ _ true 3 b3702 0 [.slice p3677 x3675.Memory.length c3678, .slice p3681 x3675.Copy.length c3682, .slice p3685 x3675.Dirty.length c3686] (.agg #[.slice p3677 x3675.Memory.length c3678, .slice p3681 x3675.Copy.length c3682, .slice p3685 x3675.Dirty.length c3686]) rfl (by kernel_rfl) (by kernel_rfl) (by kernel_rfl) (M3715.blk 0 (b := b3702) (o := .cells ⟨[.slice p3677 x3675.Memory.length c3678, .slice p3681 x3675.Copy.length c3682, .slice p3685 x3675.Dirty.length c3686]⟩ 28 (0, 0)) (by kernel_rfl))) ?_
  obtain ⟨r3716, hr3716, hm⟩ := gx_bind hm
  refine W_call 96 #[.agg #[.slice p3677 x3675.Memory.length c3678, .slice p3681 x3675.Copy.length c3682, .slice p3685 x3675.Dirty.length c3686]] (by kernel_rfl) (by kernel_rfl) ?_
  refine (c_s_l19Own w3714 x3675 p3677 c3678 (h3679.mem0 M3715) p3681 c3682 (h3683.mem0 M3715) p3685 c3686 (h3687.mem0 M3715) hr3716).mono ?_
  rintro e_ w3732 ⟨p3718, c3719, sg3720, p3723, c3724, sg3725, p3728, c3729, sg3730, rfl, ho3721, ho3726, ho3731, K3733⟩
  have M3734 := M3715.call K3733
  refine ⟨_, rfl, ?_⟩
  refine W_new (fun b => .pointer (some ⟨b, 0, none⟩)) (.cells ⟨[.slice none 0 0, .slice none 0 0, .slice none 0 0]⟩ 28 (0, 0)) M3734 rfl (by kernel_rfl) (by kernel_rfl) ?_
  intro b3739 w3740 M3741
  refine W_store _ _ _ true 3 b3739 0 [.slice none 0 0, .slice none 0 0, .slice none 0 0] 28 (.agg #[.slice p3718 r3716.Memory.length c3719, .slice p3723 r3716.Copy.length c3724, .slice p3728 r3716.Dirty.length c3729]) 6 [.slice p3718 r3716.Memory.length c3719, .slice p3723 r3716.Copy.length c3724, .slice p3728 r3716.Dirty.length c3729] M3741 (by kernel_rfl) rfl (by kernel_rfl) (by kernel_rfl) (by kernel_rfl) (by kernel_rfl) (by kernel_rfl) (by kernel_rfl) (by kernel_rfl) (by kernel_rfl) ?_
  intro w3742 M3743
  refine W_nil ?_
  refine N_then ?_
  refine G_seq ?_
  refine G_region ?_
  refine W_run 1 [(3, .pointer (some ⟨b3706, 0, none⟩)), (4, .pointer (some ⟨b3713, 0, none⟩)), (5, .pointer (some ⟨b3739, 0, none⟩)), (8, .pointer (some ⟨b3739, 0, none⟩))] w3742 (by kernel_rfl) ?_
  refine W_val (.slice p3718 r3716.Memory.length c3719) w3742 (by kernel_rfl) (E_load (e := 28) (fr := (0, 0)) _ _ false 1 b3739 0 [.slice p3718 r3716.Memory.length c3719, .slice p3723 r3716.Copy.length c3724, .slice p3728 r3716.Dirty.length c3729] (.slice p3718 r3716.Memory.length c3719) rfl (by kernel_rfl) (by kernel_rfl) (by kernel_rfl) (M3743.blk 6 (b := b3739) (o := .cells ⟨[.slice p3718 r3716.Memory.length c3719, .slice p3723 r3716.Copy.length c3724, .slice p3728 r3716.Dirty.length c3729]⟩ 28 (0, 0)) (by kernel_rfl))) ?_
  refine W_run 1 [(3, .pointer (some ⟨b3706, 0, none⟩)), (4, .pointer (some ⟨b3713, 0, none⟩)), (5, .pointer (some ⟨b3739, 0, none⟩)), (9, .slice p3718 r3716.Memory.length c3719), (10, .pointer (some ⟨b3706, 0, none⟩))] w3742 (by kernel_rfl) ?_
  refine W_val (.int .i64 x3688.Word) w3742 (by kernel_rfl) (E_load (e := 46) (fr := (0, 0)) _ _ false 1 b3706 0 [.int .i64 x3688.Word, .int .i64 x3688.Value] (.int .i64 x3688.Word) rfl (by kernel_rfl) (by kernel_rfl) (by kernel_rfl) (M3743.blk 1 (b := b3706) (o := .cells ⟨[.int .i64 x3688.Word, .int .i64 x3688.Value]⟩ 46 (0, 0)) (by kernel_rfl))) ?_
  refine W_run 1 [(3, .pointer (some ⟨b3706, 0, none⟩)), (4, .pointer (some ⟨b3713, 0, none⟩)), (5, .pointer (some ⟨b3739, 0, none⟩)), (9, .slice p3718 r3716.Memory.length c3719), (11, .int .i64 x3688.Word), (12, .pointer (some ⟨b3706, 1, none⟩))] w3742 (by kernel_rfl) ?_
  refine W_val (.int .i64 x3688.Value) w3742 (by kernel_rfl) (E_load (e := 46) (fr := (0, 0)) _ _ false 1 b3706 1 [.int .i64 x3688.Word, .int .i64 x3688.Value] (.int .i64 x3688.Value) rfl (by kernel_rfl) (by kernel_rfl) (by kernel_rfl) (M3743.blk 1 (b := b3706) (o := .cells ⟨[.int .i64 x3688.Word, .int .i64 x3688.Value]⟩ 46 (0, 0)) (by kernel_rfl))) ?_
  obtain ⟨y3744, hy3744, hm⟩ := gx_bind hm
  refine W_val (elemP p3718 (x3688.Word.toNat * 1)) w3742 (by kernel_rfl) (E_index (E := encI) _ _ _ r3716.Memory.length c3719 .i64 x3688.Word 1 (y := y3744) rfl (by kernel_rfl) (by kernel_rfl) (by kernel_rfl) (ho3721.rd M3743 3 (by kernel_rfl)) rfl hy3744) ?_
  refine W_storeE (E := encI) _ _ _ false 1 x3688.Word.toNat 0 (x3688.Word.toNat * 1) y3744 x3688.Value (.int .i64 x3688.Value) 3 M3743 ho3721 (by kernel_rfl) (by kernel_rfl) rfl (by kernel_rfl) (by kernel_rfl) (by kernel_rfl) (by kernel_rfl) (by kernel_rfl) (by kernel_rfl) (by kernel_rfl) (gxIdx_spec hy3744).2 rfl ?_
  intro w3745 sg3747 ho3748 M3746
  refine W_conv 9 (.slice p3718 r3716.Memory.length c3719) (.slice p3718 (r3716.Memory.set x3688.Word.toNat x3688.Value).length c3719) (by kernel_rfl) (by rw [@List.length_set _ r3716.Memory x3688.Word.toNat x3688.Value]) ?_
  have M3749 : Mem [] w w3745 [[(b3702, .cells ⟨[.slice p3677 x3675.Memory.length c3678, .slice p3681 x3675.Copy.length c3682, .slice p3685 x3675.Dirty.length c3686]⟩ 28 (0, 0))], [(b3706, .cells ⟨[.int .i64 x3688.Word, .int .i64 x3688.Value]⟩ 46 (0, 0))], [(b3713, .cells ⟨[.slice none 0 0, .slice none 0 0, .slice none 0 0]⟩ 28 (0, 0))], sg3747, sg3725, sg3730, [(b3739, .cells ⟨[.slice p3718 (r3716.Memory.set x3688.Word.toNat x3688.Value).length c3719, .slice p3723 r3716.Copy.length c3724, .slice p3728 r3716.Dirty.length c3729]⟩ 28 (0, 0))]] := by rw [@List.length_set _ r3716.Memory x3688.Word.toNat x3688.Value]; exact M3746
  refine W_nil ?_
  refine N_then ?_
  refine G_seq ?_
  refine G_region ?_
  refine W_run 1 [(3, .pointer (some ⟨b3706, 0, none⟩)), (4, .pointer (some ⟨b3713, 0, none⟩)), (5, .pointer (some ⟨b3739, 0, none⟩)), (15, .pointer (some ⟨b3739, 2, none⟩))] w3745 (by kernel_rfl) ?_
  refine W_val (.slice p3728 r3716.Dirty.length c3729) w3745 (by kernel_rfl) (E_load (e := 28) (fr := (0, 0)) _ _ false 1 b3739 2 [.slice p3718 (r3716.Memory.set x3688.Word.toNat x3688.Value).length c3719, .slice p3723 r3716.Copy.length c3724, .slice p3728 r3716.Dirty.length c3729] (.slice p3728 r3716.Dirty.length c3729) rfl (by kernel_rfl) (by kernel_rfl) (by kernel_rfl) (M3749.blk 6 (b := b3739) (o := .cells ⟨[.slice p3718 (r3716.Memory.set x3688.Word.toNat x3688.Value).length c3719, .slice p3723 r3716.Copy.length c3724, .slice p3728 r3716.Dirty.length c3729]⟩ 28 (0, 0)) (by kernel_rfl))) ?_
  refine W_run 1 [(4, .pointer (some ⟨b3713, 0, none⟩)), (5, .pointer (some ⟨b3739, 0, none⟩)), (16, .slice p3728 r3716.Dirty.length c3729), (17, .pointer (some ⟨b3706, 0, none⟩))] w3745 (by kernel_rfl) ?_
  refine W_val (.int .i64 x3688.Word) w3745 (by kernel_rfl) (E_load (e := 46) (fr := (0, 0)) _ _ false 1 b3706 0 [.int .i64 x3688.Word, .int .i64 x3688.Value] (.int .i64 x3688.Word) rfl (by kernel_rfl) (by kernel_rfl) (by kernel_rfl) (M3749.blk 1 (b := b3706) (o := .cells ⟨[.int .i64 x3688.Word, .int .i64 x3688.Value]⟩ 46 (0, 0)) (by kernel_rfl))) ?_
  obtain ⟨y3750, hy3750, hm⟩ := gx_bind hm
  refine W_val (elemP p3728 (x3688.Word.toNat * 1)) w3745 (by kernel_rfl) (E_index (E := encB) _ _ _ r3716.Dirty.length c3729 .i64 x3688.Word 1 (y := y3750) rfl (by kernel_rfl) (by kernel_rfl) (by kernel_rfl) (ho3731.rd M3749 5 (by kernel_rfl)) rfl hy3750) ?_
  refine W_storeE (E := encB) _ _ _ false 1 x3688.Word.toNat 0 (x3688.Word.toNat * 1) y3750 true (.bool true) 5 M3749 ho3731 (by kernel_rfl) (by kernel_rfl) rfl (by kernel_rfl) (by kernel_rfl) (by kernel_rfl) (by kernel_rfl) (by kernel_rfl) (by kernel_rfl) (by kernel_rfl) (gxIdx_spec hy3750).2 rfl ?_
  intro w3751 sg3753 ho3754 M3752
  refine W_conv 16 (.slice p3728 r3716.Dirty.length c3729) (.slice p3728 (r3716.Dirty.set x3688.Word.toNat true).length c3729) (by kernel_rfl) (by rw [@List.length_set _ r3716.Dirty x3688.Word.toNat true]) ?_
  have M3755 : Mem [] w w3751 [[(b3702, .cells ⟨[.slice p3677 x3675.Memory.length c3678, .slice p3681 x3675.Copy.length c3682, .slice p3685 x3675.Dirty.length c3686]⟩ 28 (0, 0))], [(b3706, .cells ⟨[.int .i64 x3688.Word, .int .i64 x3688.Value]⟩ 46 (0, 0))], [(b3713, .cells ⟨[.slice none 0 0, .slice none 0 0, .slice none 0 0]⟩ 28 (0, 0))], sg3747, sg3725, sg3753, [(b3739, .cells ⟨[.slice p3718 (r3716.Memory.set x3688.Word.toNat x3688.Value).length c3719, .slice p3723 r3716.Copy.length c3724, .slice p3728 (r3716.Dirty.set x3688.Word.toNat true).length c3729]⟩ 28 (0, 0))]] := by rw [@List.length_set _ r3716.Dirty x3688.Word.toNat true]; exact M3752
  refine W_nil ?_
  refine N_then ?_
  refine G_seq ?_
  refine G_region ?_
  refine W_val (.agg #[.slice p3718 (r3716.Memory.set x3688.Word.toNat x3688.Value).length c3719, .slice p3723 r3716.Copy.length c3724, .slice p3728 (r3716.Dirty.set x3688.Word.toNat true).length c3729]) w3751 (by kernel_rfl) (E_load (e := 28) (fr := (0, 0)) _ _ true 3 b3739 0 [.slice p3718 (r3716.Memory.set x3688.Word.toNat x3688.Value).length c3719, .slice p3723 r3716.Copy.length c3724, .slice p3728 (r3716.Dirty.set x3688.Word.toNat true).length c3729] (.agg #[.slice p3718 (r3716.Memory.set x3688.Word.toNat x3688.Value).length c3719, .slice p3723 r3716.Copy.length c3724, .slice p3728 (r3716.Dirty.set x3688.Word.toNat true).length c3729]) rfl (by kernel_rfl) (by kernel_rfl) (by kernel_rfl) (M3755.blk 6 (b := b3739) (o := .cells ⟨[.slice p3718 (r3716.Memory.set x3688.Word.toNat x3688.Value).length c3719, .slice p3723 r3716.Copy.length c3724, .slice p3728 (r3716.Dirty.set x3688.Word.toNat true).length c3729]⟩ 28 (0, 0)) (by kernel_rfl))) ?_
  refine W_store _ _ _ true 3 b3713 0 [.slice none 0 0, .slice none 0 0, .slice none 0 0] 28 (.agg #[.slice p3718 (r3716.Memory.set x3688.Word.toNat x3688.Value).length c3719, .slice p3723 r3716.Copy.length c3724, .slice p3728 (r3716.Dirty.set x3688.Word.toNat true).length c3729]) 2 [.slice p3718 (r3716.Memory.set x3688.Word.toNat x3688.Value).length c3719, .slice p3723 r3716.Copy.length c3724, .slice p3728 (r3716.Dirty.set x3688.Word.toNat true).length c3729] M3755 (by kernel_rfl) rfl (by kernel_rfl) (by kernel_rfl) (by kernel_rfl) (by kernel_rfl) (by kernel_rfl) (by kernel_rfl) (by kernel_rfl) (by kernel_rfl) ?_
  intro w3756 M3757
  refine W_nil ?_
  refine N_then ?_
  refine G_ret ?_
  obtain rfl := Option.some.inj hm
  refine N_ret [.agg #[.slice p3718 (r3716.Memory.set x3688.Word.toNat x3688.Value).length c3719, .slice p3723 r3716.Copy.length c3724, .slice p3728 (r3716.Dirty.set x3688.Word.toNat true).length c3729]] (RVs_cons (RV_cell (g := true) (k := 3) (b := b3713) (off := 0) (cs := [.slice p3718 (r3716.Memory.set x3688.Word.toNat x3688.Value).length c3719, .slice p3723 r3716.Copy.length c3724, .slice p3728 (r3716.Dirty.set x3688.Word.toNat true).length c3729]) (e := 28) (fr := (0, 0)) (v := .agg #[.slice p3718 (r3716.Memory.set x3688.Word.toNat x3688.Value).length c3719, .slice p3723 r3716.Copy.length c3724, .slice p3728 (r3716.Dirty.set x3688.Word.toNat true).length c3729]) (M3757.blk 2 (b := b3713) (o := .cells ⟨[.slice p3718 (r3716.Memory.set x3688.Word.toNat x3688.Value).length c3719, .slice p3723 r3716.Copy.length c3724, .slice p3728 (r3716.Dirty.set x3688.Word.toNat true).length c3729]⟩ 28 (0, 0)) (by kernel_rfl)) (by kernel_rfl) (by kernel_rfl) (by kernel_rfl)) RVs_nil) ?_
  exact ⟨p3718, c3719, sg3747, p3723, c3724, sg3725, p3728, c3729, sg3753, rfl, ho3748, ho3726, ho3754, M3757.pick [3, 4, 5] (by kernel_rfl)⟩
theorem c_s_StoreWord (w : World) (x3556 : Copying) (p3558 : Option Addr) (c3559 : Nat) (h3560 : rdS encI w x3556.Memory p3558 c3559) (p3562 : Option Addr) (c3563 : Nat) (h3564 : rdS encI w x3556.Copy p3562 c3563) (p3566 : Option Addr) (c3567 : Nat) (h3568 : rdS encB w x3556.Dirty p3566 c3567) (x3569 : Store) {r : Copying × Bool} (hm : M.s_StoreWord x3556 x3569 = some r) :
    Calls Try.prog 30 #[.agg #[.slice p3558 x3556.Memory.length c3559, .slice p3562 x3556.Copy.length c3563, .slice p3566 x3556.Dirty.length c3567], .agg #[.int .i64 x3569.Word, .int .i64 x3569.Value]] w fun e w' => ∃ (p3571 : Option Addr) (c3572 : Nat) (sg3573 : Seg), ∃ (p3575 : Option Addr) (c3576 : Nat) (sg3577 : Seg), ∃ (p3579 : Option Addr) (c3580 : Nat) (sg3581 : Seg), e = .returned (.tuple #[.agg #[.slice p3571 r.1.Memory.length c3572, .slice p3575 r.1.Copy.length c3576, .slice p3579 r.1.Dirty.length c3580], .bool r.2]) ∧ ownS encI r.1.Memory p3571 c3572 sg3573 ∧ ownS encI r.1.Copy p3575 c3576 sg3577 ∧ ownS encB r.1.Dirty p3579 c3580 sg3581 ∧ Mem [] w w' [sg3573, sg3577, sg3581] := by
  unfold M.s_StoreWord at hm
  refine C_enter Try.func30 rfl (by kernel_rfl) ?_
  have M0 := Mem.refl [] w
  refine G_seq ?_
  refine G_region ?_
  refine W_new (fun b => .pointer (some ⟨b, 0, none⟩)) (.cells ⟨[.slice p3558 x3556.Memory.length c3559, .slice p3562 x3556.Copy.length c3563, .slice p3566 x3556.Dirty.length c3567]⟩ 28 (0, 0)) M0 rfl (by kernel_rfl) (by kernel_rfl) ?_
  intro b3583 w3584 M3585
  refine W_new (fun b => .pointer (some ⟨b, 0, none⟩)) (.cells ⟨[.int .i64 x3569.Word, .int .i64 x3569.Value]⟩ 46 (0, 0)) M3585 rfl (by kernel_rfl) (by kernel_rfl) ?_
  intro b3587 w3588 M3589
  refine W_new (fun b => .pointer (some ⟨b, 0, none⟩)) (.cells ⟨[.slice none 0 0, .slice none 0 0, .slice none 0 0]⟩ 28 (0, 0)) M3589 rfl (by kernel_rfl) (by kernel_rfl) ?_
  intro b3594 w3595 M3596
  refine W_run 1 [(2, .pointer (some ⟨b3583, 0, none⟩)), (3, .pointer (some ⟨b3587, 0, none⟩)), (4, .pointer (some ⟨b3594, 0, none⟩))] w3595 (by kernel_rfl) ?_
  refine W_nil ?_
  refine N_then ?_
  refine G_seq ?_
  refine G_seq ?_
  obtain ⟨o3653, ho3654, hm3655⟩ := gx_bind hm
  refine G_meet (fun a w' => Mem [] w w' [[(b3583, .cells ⟨[.slice p3558 x3556.Memory.length c3559, .slice p3562 x3556.Copy.length c3563, .slice p3566 x3556.Dirty.length c3567]⟩ 28 (0, 0))], [(b3587, .cells ⟨[.int .i64 x3569.Word, .int .i64 x3569.Value]⟩ 46 (0, 0))], [(b3594, .cells ⟨[.slice none 0 0, .slice none 0 0, .slice none 0 0]⟩ 28 (0, 0))]] ∧ Sat Try.f30.ntmps [(2, .pointer (some ⟨b3583, 0, none⟩)), (3, .pointer (some ⟨b3587, 0, none⟩)), (4, .pointer (some ⟨b3594, 0, none⟩)), (14, .bool o3653)] a) ?_ ?_
  · have hm := ho3654
    refine G_region ?_
    refine W_val (.agg #[.slice p3558 x3556.Memory.length c3559, .slice p3562 x3556.Copy.length c3563, .slice p3566 x3556.Dirty.length c3567]) w3595 (by kernel_rfl) (E_load (e := 28) (fr := (0, 0)) _ _ true 3 b3583 0 [.slice p3558 x3556.Memory.length c3559, .slice p3562 x3556.Copy.length c3563, .slice p3566 x3556.Dirty.length c3567] (.agg #[.slice p3558 x3556.Memory.length c3559, .slice p3562 x3556.Copy.length c3563, .slice p3566 x3556.Dirty.length c3567]) rfl (by kernel_rfl) (by kernel_rfl) (by kernel_rfl) (M3596.blk 0 (b := b3583) (o := .cells ⟨[.slice p3558 x3556.Memory.length c3559, .slice p3562 x3556.Copy.length c3563, .slice p3566 x3556.Dirty.length c3567]⟩ 28 (0, 0)) (by kernel_rfl))) ?_
    obtain ⟨r3656, hr3656, hm⟩ := gx_bind hm
    refine W_call 56 #[.agg #[.slice p3558 x3556.Memory.length c3559, .slice p3562 x3556.Copy.length c3563, .slice p3566 x3556.Dirty.length c3567]] (by kernel_rfl) (by kernel_rfl) ?_
    refine (c_s_l19Good w3595 x3556 p3558 c3559 (h3560.mem0 M3596) p3562 c3563 (h3564.mem0 M3596) p3566 c3567 (h3568.mem0 M3596) hr3656).mono ?_
    rintro e_ w3657 ⟨rfl, K3658⟩
    have M3659 := M3596.call0 K3658
    refine ⟨_, rfl, ?_⟩
    refine W_run 2 [(2, .pointer (some ⟨b3583, 0, none⟩)), (3, .pointer (some ⟨b3587, 0, none⟩)), (4, .pointer (some ⟨b3594, 0, none⟩)), (9, .bool (!r3656))] w3657 (by kernel_rfl) ?_
    rcases gx_bif hm with ⟨hc3660, hm⟩ | ⟨hc3660, hm⟩
    · refine W_known 9 true (by kernel_rfl) hc3660 ?_
      refine W_run 5 [(2, .pointer (some ⟨b3583, 0, none⟩)), (3, .pointer (some ⟨b3587, 0, none⟩)), (4, .pointer (some ⟨b3594, 0, none⟩)), (14, .bool true)] w3657 (by kernel_rfl) ?_
      refine W_nil ?_
      obtain rfl := Option.some.inj hm
      exact N_meet fun a ha => ⟨M3659.pick [0, 1, 2] (by kernel_rfl), ha.sub (by kernel_rfl)⟩
    · refine W_known 9 false (by kernel_rfl) hc3660 ?_
      refine W_val (.agg #[.slice p3558 x3556.Memory.length c3559, .slice p3562 x3556.Copy.length c3563, .slice p3566 x3556.Dirty.length c3567]) w3657 (by kernel_rfl) (E_load (e := 28) (fr := (0, 0)) _ _ true 3 b3583 0 [.slice p3558 x3556.Memory.length c3559, .slice p3562 x3556.Copy.length c3563, .slice p3566 x3556.Dirty.length c3567] (.agg #[.slice p3558 x3556.Memory.length c3559, .slice p3562 x3556.Copy.length c3563, .slice p3566 x3556.Dirty.length c3567]) rfl (by kernel_rfl) (by kernel_rfl) (by kernel_rfl) (M3659.blk 0 (b := b3583) (o := .cells ⟨[.slice p3558 x3556.Memory.length c3559, .slice p3562 x3556.Copy.length c3563, .slice p3566 x3556.Dirty.length c3567]⟩ 28 (0, 0)) (by kernel_rfl))) ?_
      refine W_val (.agg #[.int .i64 x3569.Word, .int .i64 x3569.Value]) w3657 (by kernel_rfl) (E_load (e := 46) (fr := (0, 0)) _ _ true 2 b3587 0 [.int .i64 x3569.Word, .int .i64 x3569.Value] (.agg #[.int .i64 x3569.Word, .int .i64 x3569.Value]) rfl (by kernel_rfl) (by kernel_rfl) (by kernel_rfl) (M3659.blk 1 (b := b3587) (o := .cells ⟨[.int .i64 x3569.Word, .int .i64 x3569.Value]⟩ 46 (0, 0)) (by kernel_rfl))) ?_
      obtain ⟨r3661, hr3661, hm⟩ := gx_bind hm
      refine W_call 68 #[.agg #[.slice p3558 x3556.Memory.length c3559, .slice p3562 x3556.Copy.length c3563, .slice p3566 x3556.Dirty.length c3567], .agg #[.int .i64 x3569.Word, .int .i64 x3569.Value]] (by kernel_rfl) (by kernel_rfl) ?_
      refine (c_s_l19Store w3657 x3556 p3558 c3559 (h3560.mem0 M3659) p3562 c3563 (h3564.mem0 M3659) p3566 c3567 (h3568.mem0 M3659) x3569 hr3661).mono ?_
      rintro e_ w3662 ⟨rfl, K3663⟩
      have M3664 := M3659.call0 K3663
      refine ⟨_, rfl, ?_⟩
      refine W_run 2 [(2, .pointer (some ⟨b3583, 0, none⟩)), (3, .pointer (some ⟨b3587, 0, none⟩)), (4, .pointer (some ⟨b3594, 0, none⟩)), (14, .bool (!r3661))] w3662 (by kernel_rfl) ?_
      refine W_nil ?_
      obtain rfl := Option.some.inj hm
      exact N_meet fun a ha => ⟨M3664.pick [0, 1, 2] (by kernel_rfl), ha.sub (by kernel_rfl)⟩
  · intro a3667 w3665 ⟨M3666, hS3668⟩
    refine N_use hS3668 ?_
    have hm := hm3655
    refine N_then ?_
    rcases gx_bif hm with ⟨hc3669, hm⟩ | ⟨hc3669, hm⟩
    · refine G_cond_t (b := o3653) hc3669 (by kernel_rfl) ?_
      refine G_seq ?_
      refine G_region ?_
      refine W_run 1 [(4, .pointer (some ⟨b3594, 0, none⟩)), (15, .agg #[.slice none 0 0, .slice none 0 0, .slice none 0 0])] w3665 (by kernel_rfl) ?_
      refine W_store _ _ _ true 3 b3594 0 [.slice none 0 0, .slice none 0 0, .slice none 0 0] 28 (.agg #[.slice none 0 0, .slice none 0 0, .slice none 0 0]) 2 [.slice none 0 0, .slice none 0 0, .slice none 0 0] M3666 (by kernel_rfl) rfl (by kernel_rfl) (by kernel_rfl) (by kernel_rfl) (by kernel_rfl) (by kernel_rfl) (by kernel_rfl) (by kernel_rfl) (by kernel_rfl) ?_
      intro w3673 M3674
      refine W_run 1 [(4, .pointer (some ⟨b3594, 0, none⟩)), (5, .bool false)] w3673 (by kernel_rfl) ?_
      refine W_nil ?_
      refine N_then ?_
      refine G_ret ?_
      refine N_then_ret ?_
      obtain rfl := Option.some.inj hm
      refine N_ret [.agg #[.slice none 0 0, .slice none 0 0, .slice none 0 0], .bool false] (RVs_cons (RV_cell (g := true) (k := 3) (b := b3594) (off := 0) (cs := [.slice none 0 0, .slice none 0 0, .slice none 0 0]) (e := 28) (fr := (0, 0)) (v := .agg #[.slice none 0 0, .slice none 0 0, .slice none 0 0]) (M3674.blk 2 (b := b3594) (o := .cells ⟨[.slice none 0 0, .slice none 0 0, .slice none 0 0]⟩ 28 (0, 0)) (by kernel_rfl)) (by kernel_rfl) (by kernel_rfl) (by kernel_rfl)) (RVs_cons (RV_tmp (by kernel_rfl)) RVs_nil)) ?_
      exact ⟨none, 0, [], none, 0, [], none, 0, [], rfl, ownS_nil, ownS_nil, ownS_nil, M3674.pick [100000, 100001, 100002] (by kernel_rfl)⟩
    · refine G_cond_f (b := o3653) hc3669 (by kernel_rfl) ?_
      refine G_skip ?_
      refine N_then ?_
      refine G_seq ?_
      refine G_region ?_
      refine W_val (.agg #[.slice p3558 x3556.Memory.length c3559, .slice p3562 x3556.Copy.length c3563, .slice p3566 x3556.Dirty.length c3567]) w3665 (by kernel_rfl) (E_load (e := 28) (fr := (0, 0)) _ _ true 3 b3583 0 [.slice p3558 x3556.Memory.length c3559, .slice p3562 x3556.Copy.length c3563, .slice p3566 x3556.Dirty.length c3567] (.agg #[.slice p3558 x3556.Memory.length c3559, .slice p3562 x3556.Copy.length c3563, .slice p3566 x3556.Dirty.length c3567]) rfl (by kernel_rfl) (by kernel_rfl) (by kernel_rfl) (M3666.blk 0 (b := b3583) (o := .cells ⟨[.slice p3558 x3556.Memory.length c3559, .slice p3562 x3556.Copy.length c3563, .slice p3566 x3556.Dirty.length c3567]⟩ 28 (0, 0)) (by kernel_rfl))) ?_
      refine W_val (.agg #[.int .i64 x3569.Word, .int .i64 x3569.Value]) w3665 (by kernel_rfl) (E_load (e := 46) (fr := (0, 0)) _ _ true 2 b3587 0 [.int .i64 x3569.Word, .int .i64 x3569.Value] (.agg #[.int .i64 x3569.Word, .int .i64 x3569.Value]) rfl (by kernel_rfl) (by kernel_rfl) (by kernel_rfl) (M3666.blk 1 (b := b3587) (o := .cells ⟨[.int .i64 x3569.Word, .int .i64 x3569.Value]⟩ 46 (0, 0)) (by kernel_rfl))) ?_
      obtain ⟨r3758, hr3758, hm⟩ := gx_bind hm
      refine W_call 69 #[.agg #[.slice p3558 x3556.Memory.length c3559, .slice p3562 x3556.Copy.length c3563, .slice p3566 x3556.Dirty.length c3567], .agg #[.int .i64 x3569.Word, .int .i64 x3569.Value]] (by kernel_rfl) (by kernel_rfl) ?_
      refine (c_s_l19Write w3665 x3556 p3558 c3559 (h3560.mem0 M3666) p3562 c3563 (h3564.mem0 M3666) p3566 c3567 (h3568.mem0 M3666) x3569 hr3758).mono ?_
      rintro e_ w3774 ⟨p3760, c3761, sg3762, p3765, c3766, sg3767, p3770, c3771, sg3772, rfl, ho3763, ho3768, ho3773, K3775⟩
      have M3776 := M3666.call K3775
      refine ⟨_, rfl, ?_⟩
      refine W_store _ _ _ true 3 b3594 0 [.slice none 0 0, .slice none 0 0, .slice none 0 0] 28 (.agg #[.slice p3760 r3758.Memory.length c3761, .slice p3765 r3758.Copy.length c3766, .slice p3770 r3758.Dirty.length c3771]) 2 [.slice p3760 r3758.Memory.length c3761, .slice p3765 r3758.Copy.length c3766, .slice p3770 r3758.Dirty.length c3771] M3776 (by kernel_rfl) rfl (by kernel_rfl) (by kernel_rfl) (by kernel_rfl) (by kernel_rfl) (by kernel_rfl) (by kernel_rfl) (by kernel_rfl) (by kernel_rfl) ?_
      intro w3777 M3778
      refine W_run 1 [(4, .pointer (some ⟨b3594, 0, none⟩)), (5, .bool true)] w3777 (by kernel_rfl) ?_
      refine W_nil ?_
      refine N_then ?_
      refine G_ret ?_
      obtain rfl := Option.some.inj hm
      refine N_ret [.agg #[.slice p3760 r3758.Memory.length c3761, .slice p3765 r3758.Copy.length c3766, .slice p3770 r3758.Dirty.length c3771], .bool true] (RVs_cons (RV_cell (g := true) (k := 3) (b := b3594) (off := 0) (cs := [.slice p3760 r3758.Memory.length c3761, .slice p3765 r3758.Copy.length c3766, .slice p3770 r3758.Dirty.length c3771]) (e := 28) (fr := (0, 0)) (v := .agg #[.slice p3760 r3758.Memory.length c3761, .slice p3765 r3758.Copy.length c3766, .slice p3770 r3758.Dirty.length c3771]) (M3778.blk 2 (b := b3594) (o := .cells ⟨[.slice p3760 r3758.Memory.length c3761, .slice p3765 r3758.Copy.length c3766, .slice p3770 r3758.Dirty.length c3771]⟩ 28 (0, 0)) (by kernel_rfl)) (by kernel_rfl) (by kernel_rfl) (by kernel_rfl)) (RVs_cons (RV_tmp (by kernel_rfl)) RVs_nil)) ?_
      exact ⟨p3760, c3761, sg3762, p3765, c3766, sg3767, p3770, c3771, sg3772, rfl, ho3763, ho3768, ho3773, M3778.pick [3, 4, 5] (by kernel_rfl)⟩
theorem c_i_isStore (w : World) (x3925 : Copying) (p3927 : Option Addr) (c3928 : Nat) (h3929 : rdS encI w x3925.Memory p3927 c3928) (p3931 : Option Addr) (c3932 : Nat) (h3933 : rdS encI w x3925.Copy p3931 c3932) (p3935 : Option Addr) (c3936 : Nat) (h3937 : rdS encB w x3925.Dirty p3935 c3936) (x3938 : Store) {r : Bool} (hm : M.i_isStore x3925 x3938 = some r) :
    Calls Try.prog 70 #[.agg #[.slice p3927 x3925.Memory.length c3928, .slice p3931 x3925.Copy.length c3932, .slice p3935 x3925.Dirty.length c3936], .agg #[.int .i64 x3938.Word, .int .i64 x3938.Value]] w fun e w' => e = .returned (.bool r) ∧ Mem [] w w' [] := by
  unfold M.i_isStore at hm
  refine C_enter Try.func70 rfl (by kernel_rfl) ?_
  have M0 := Mem.refl [] w
  refine G_seq ?_
  refine G_region ?_
  refine W_new (fun b => .pointer (some ⟨b, 0, none⟩)) (.cells ⟨[.slice p3927 x3925.Memory.length c3928, .slice p3931 x3925.Copy.length c3932, .slice p3935 x3925.Dirty.length c3936]⟩ 28 (0, 0)) M0 rfl (by kernel_rfl) (by kernel_rfl) ?_
  intro b3940 w3941 M3942
  refine W_new (fun b => .pointer (some ⟨b, 0, none⟩)) (.cells ⟨[.int .i64 x3938.Word, .int .i64 x3938.Value]⟩ 46 (0, 0)) M3942 rfl (by kernel_rfl) (by kernel_rfl) ?_
  intro b3944 w3945 M3946
  refine W_run 1 [(2, .pointer (some ⟨b3940, 0, none⟩)), (3, .pointer (some ⟨b3944, 0, none⟩))] w3945 (by kernel_rfl) ?_
  refine W_nil ?_
  refine N_then ?_
  refine G_seq ?_
  obtain ⟨o3956, ho3957, hm3958⟩ := gx_bind hm
  refine G_meet (fun a w' => Mem [] w w' [] ∧ Sat Try.f70.ntmps [(4, .bool o3956)] a) ?_ ?_
  · have hm := ho3957
    refine G_region ?_
    refine W_run 1 [(2, .pointer (some ⟨b3940, 0, none⟩)), (3, .pointer (some ⟨b3944, 0, none⟩)), (5, .pointer (some ⟨b3944, 0, none⟩))] w3945 (by kernel_rfl) ?_
    refine W_val (.int .i64 x3938.Word) w3945 (by kernel_rfl) (E_load (e := 46) (fr := (0, 0)) _ _ false 1 b3944 0 [.int .i64 x3938.Word, .int .i64 x3938.Value] (.int .i64 x3938.Word) rfl (by kernel_rfl) (by kernel_rfl) (by kernel_rfl) (M3946.blk 1 (b := b3944) (o := .cells ⟨[.int .i64 x3938.Word, .int .i64 x3938.Value]⟩ 46 (0, 0)) (by kernel_rfl))) ?_
    refine W_run 1 [(3, .pointer (some ⟨b3944, 0, none⟩)), (6, .int .i64 x3938.Word), (7, .pointer (some ⟨b3940, 0, none⟩))] w3945 (by kernel_rfl) ?_
    refine W_val (.slice p3927 x3925.Memory.length c3928) w3945 (by kernel_rfl) (E_load (e := 28) (fr := (0, 0)) _ _ false 1 b3940 0 [.slice p3927 x3925.Memory.length c3928, .slice p3931 x3925.Copy.length c3932, .slice p3935 x3925.Dirty.length c3936] (.slice p3927 x3925.Memory.length c3928) rfl (by kernel_rfl) (by kernel_rfl) (by kernel_rfl) (M3946.blk 0 (b := b3940) (o := .cells ⟨[.slice p3927 x3925.Memory.length c3928, .slice p3931 x3925.Copy.length c3932, .slice p3935 x3925.Dirty.length c3936]⟩ 28 (0, 0)) (by kernel_rfl))) ?_
    refine W_run 2 [(3, .pointer (some ⟨b3944, 0, none⟩)), (6, .int .i64 x3938.Word), (10, .int .i64 (w64 ((x3925.Memory.length : Int) - 1)))] w3945 (by kernel_rfl) ?_
    obtain ⟨r3959, hr3959, hm⟩ := gx_bind hm
    refine W_call 74 #[.int .i64 x3938.Word, .int .i64 0, .int .i64 (w64 ((x3925.Memory.length : Int) - 1))] (by kernel_rfl) (by kernel_rfl) ?_
    refine (c_i_inside w3945 x3938.Word 0 (w64 ((x3925.Memory.length : Int) - 1)) hr3959).mono ?_
    rintro e_ w3960 ⟨rfl, K3961⟩
    have M3962 := M3946.call0 K3961
    refine ⟨_, rfl, ?_⟩
    refine W_run 1 [(3, .pointer (some ⟨b3944, 0, none⟩)), (12, .bool r3959)] w3960 (by kernel_rfl) ?_
    rcases gx_bif hm with ⟨hc3963, hm⟩ | ⟨hc3963, hm⟩
    · refine W_known 12 true (by kernel_rfl) hc3963 ?_
      refine W_run 1 [(12, .bool true), (13, .pointer (some ⟨b3944, 1, none⟩))] w3960 (by kernel_rfl) ?_
      refine W_val (.int .i64 x3938.Value) w3960 (by kernel_rfl) (E_load (e := 46) (fr := (0, 0)) _ _ false 1 b3944 1 [.int .i64 x3938.Word, .int .i64 x3938.Value] (.int .i64 x3938.Value) rfl (by kernel_rfl) (by kernel_rfl) (by kernel_rfl) (M3962.blk 1 (b := b3944) (o := .cells ⟨[.int .i64 x3938.Word, .int .i64 x3938.Value]⟩ 46 (0, 0)) (by kernel_rfl))) ?_
      obtain ⟨r3964, hr3964, hm⟩ := gx_bind hm
      refine W_call 94 #[.int .i64 x3938.Value] (by kernel_rfl) (by kernel_rfl) ?_
      refine (c_i_isWord16 w3960 x3938.Value hr3964).mono ?_
      rintro e_ w3965 ⟨rfl, K3966⟩
      have M3967 := M3962.call0 K3966
      refine ⟨_, rfl, ?_⟩
      refine W_run 2 [(4, .bool r3964)] w3965 (by kernel_rfl) ?_
      refine W_nil ?_
      obtain rfl := Option.some.inj hm
      exact N_meet fun a ha => ⟨M3967.pick [] (by kernel_rfl), ha.sub (by kernel_rfl)⟩
    · refine W_known 12 false (by kernel_rfl) hc3963 ?_
      refine W_run 5 [(4, .bool false)] w3960 (by kernel_rfl) ?_
      refine W_nil ?_
      obtain rfl := Option.some.inj hm
      exact N_meet fun a ha => ⟨M3962.pick [] (by kernel_rfl), ha.sub (by kernel_rfl)⟩
  · intro a3970 w3968 ⟨M3969, hS3971⟩
    refine N_use hS3971 ?_
    have hm := hm3958
    refine N_then ?_
    refine G_ret ?_
    obtain rfl := Option.some.inj hm
    refine N_ret [.bool o3956] (RVs_cons (RV_tmp (by kernel_rfl)) RVs_nil) ?_
    exact ⟨rfl, M3969.pick [] (by kernel_rfl)⟩
theorem c_i_newCopying (w : World) (x3998 : Copying) (p4000 : Option Addr) (c4001 : Nat) (h4002 : rdS encI w x3998.Memory p4000 c4001) (p4004 : Option Addr) (c4005 : Nat) (h4006 : rdS encI w x3998.Copy p4004 c4005) (p4008 : Option Addr) (c4009 : Nat) (h4010 : rdS encB w x3998.Dirty p4008 c4009) {r : Copying} (hm : M.i_newCopying x3998 = some r) :
    Calls Try.prog 71 #[.agg #[.slice p4000 x3998.Memory.length c4001, .slice p4004 x3998.Copy.length c4005, .slice p4008 x3998.Dirty.length c4009]] w fun e w' => ∃ (p4012 : Option Addr) (c4013 : Nat) (sg4014 : Seg), ∃ (p4016 : Option Addr) (c4017 : Nat) (sg4018 : Seg), ∃ (p4020 : Option Addr) (c4021 : Nat) (sg4022 : Seg), e = .returned (.agg #[.slice p4012 r.Memory.length c4013, .slice p4016 r.Copy.length c4017, .slice p4020 r.Dirty.length c4021]) ∧ ownS encI r.Memory p4012 c4013 sg4014 ∧ ownS encI r.Copy p4016 c4017 sg4018 ∧ ownS encB r.Dirty p4020 c4021 sg4022 ∧ Mem [] w w' [sg4014, sg4018, sg4022] := by
  unfold M.i_newCopying at hm
  refine C_enter Try.func71 rfl (by kernel_rfl) ?_
  have M0 := Mem.refl [] w
  refine G_seq ?_
  refine G_region ?_
  refine W_new (fun b => .pointer (some ⟨b, 0, none⟩)) (.cells ⟨[.slice p4000 x3998.Memory.length c4001, .slice p4004 x3998.Copy.length c4005, .slice p4008 x3998.Dirty.length c4009]⟩ 28 (0, 0)) M0 rfl (by kernel_rfl) (by kernel_rfl) ?_
  intro b4024 w4025 M4026
  refine W_new (fun b => .pointer (some ⟨b, 0, none⟩)) (.cells ⟨[.slice none 0 0, .slice none 0 0, .slice none 0 0]⟩ 28 (0, 0)) M4026 rfl (by kernel_rfl) (by kernel_rfl) ?_
  intro b4031 w4032 M4033
  refine W_nil ?_
  refine N_then ?_
  refine G_seq ?_
  obtain ⟨r4036, hr4036, hm⟩ := gx_bind hm
  obtain ⟨r4042, hr4042, hm⟩ := gx_bind hm
  refine G_sub [(0, .agg #[.slice p4000 x3998.Memory.length c4001, .slice p4004 x3998.Copy.length c4005, .slice p4008 x3998.Dirty.length c4009]), (1, .pointer (some ⟨b4024, 0, none⟩)), (2, .pointer (some ⟨b4031, 0, none⟩))] (by kernel_rfl) ?_
  refine G_dagL 9 [[], [0], [1], [], [3], [4], [], [], [7]] [[], [], [], [], [], [], [], [], []] [[], [], [], [], [], [], [], [], []] [[], [], [], [], [], [], [], [], []] [[], [], [], [], [], [], [], [], []] [[], [], [], [], [], [], [], [], []] (fun _ => []) (fun i => ([fun f v s => v = (.pointer (some ⟨b4024, 0, none⟩) : Value) ∧ s = [], fun f v s => v = (.slice p4000 x3998.Memory.length c4001 : Value) ∧ s = [], fun f v s => ∃ (p4038 : Option Addr) (c4039 : Nat), v = (.slice p4038 r4036.length c4039 : Value) ∧ ownS encI r4036 p4038 c4039 s, fun f v s => v = (.pointer (some ⟨b4024, 1, none⟩) : Value) ∧ s = [], fun f v s => v = (.slice p4004 x3998.Copy.length c4005 : Value) ∧ s = [], fun f v s => ∃ (p4044 : Option Addr) (c4045 : Nat), v = (.slice p4044 r4042.length c4045 : Value) ∧ ownS encI r4042 p4044 c4045 s, fun f v s => ∃ (p4049 : Option Addr) (c4050 : Nat), v = (.slice p4049 ([] : List Bool).length c4050 : Value) ∧ ownS encB ([] : List Bool) p4049 c4050 s, fun f v s => v = (.pointer (some ⟨b4024, 2, none⟩) : Value) ∧ s = [], fun f v s => v = (.slice p4008 x3998.Dirty.length c4009 : Value) ∧ s = []] : List ((Nat → Value) → Value → Seg → Prop)).getD i (fun _ _ _ => False)) (fun j f v => ∃ s, (fun i => ([fun f v s => v = (.pointer (some ⟨b4024, 0, none⟩) : Value) ∧ s = [], fun f v s => v = (.slice p4000 x3998.Memory.length c4001 : Value) ∧ s = [], fun f v s => ∃ (p4038 : Option Addr) (c4039 : Nat), v = (.slice p4038 r4036.length c4039 : Value) ∧ ownS encI r4036 p4038 c4039 s, fun f v s => v = (.pointer (some ⟨b4024, 1, none⟩) : Value) ∧ s = [], fun f v s => v = (.slice p4004 x3998.Copy.length c4005 : Value) ∧ s = [], fun f v s => ∃ (p4044 : Option Addr) (c4045 : Nat), v = (.slice p4044 r4042.length c4045 : Value) ∧ ownS encI r4042 p4044 c4045 s, fun f v s => ∃ (p4049 : Option Addr) (c4050 : Nat), v = (.slice p4049 ([] : List Bool).length c4050 : Value) ∧ ownS encB ([] : List Bool) p4049 c4050 s, fun f v s => v = (.pointer (some ⟨b4024, 2, none⟩) : Value) ∧ s = [], fun f v s => v = (.slice p4008 x3998.Dirty.length c4009 : Value) ∧ s = []] : List ((Nat → Value) → Value → Seg → Prop)).getD i (fun _ _ _ => False)) j f v s) [] [2, 5, 6, 8] [2, 5, 6] (fun _ _ _ s h => ⟨s, h⟩) (by kernel_rfl) (by kernel_rfl) (M4033.preNil 9) (by kernel_rfl) (by kernel_rfl) (by kernel_rfl) (by kernel_rfl) (allOb_cons ?_ (allOb_cons ?_ (allOb_cons ?_ (allOb_cons ?_ (allOb_cons ?_ (allOb_cons ?_ (allOb_cons ?_ (allOb_cons ?_ (allOb_cons ?_ allOb_nil))))))))) ?_
  · intro g4034 f4035
    intro R w4053 M4054
    refine W_run 1 [(3, .pointer (some ⟨b4024, 0, none⟩))] w4053 (by kernel_rfl) ?_
    exact W_nil (ob_end (.pointer (some ⟨b4024, 0, none⟩)) [] rfl (by kernel_rfl) ⟨by kernel_rfl, rfl⟩ M4054)
  · intro g4034 f4035
    intro v0_ hb0_
    obtain ⟨rfl, _⟩ := hb0_
    intro R w4057 M4058
    refine W_val (.slice p4000 x3998.Memory.length c4001) w4057 (by kernel_rfl) (E_load (e := 28) (fr := (0, 0)) _ _ false 1 b4024 0 [.slice p4000 x3998.Memory.length c4001, .slice p4004 x3998.Copy.length c4005, .slice p4008 x3998.Dirty.length c4009] (.slice p4000 x3998.Memory.length c4001) rfl (by kernel_rfl) (by kernel_rfl) (by kernel_rfl) (M4058.blk 0 (b := b4024) (o := .cells ⟨[.slice p4000 x3998.Memory.length c4001, .slice p4004 x3998.Copy.length c4005, .slice p4008 x3998.Dirty.length c4009]⟩ 28 (0, 0)) (by kernel_rfl))) ?_
    exact W_nil (ob_end (.slice p4000 x3998.Memory.length c4001) [] rfl (by kernel_rfl) ⟨by kernel_rfl, rfl⟩ M4058)
  · intro g4034 f4035
    intro v1_ hb1_
    obtain ⟨rfl, _⟩ := hb1_
    intro R w4061 M4062
    refine W_call 62 #[.slice p4000 x3998.Memory.length c4001] (by kernel_rfl) (by kernel_rfl) ?_
    refine (c_i_copyInts w4061 x3998.Memory p4000 c4001 (h4002.mem0 M4062) hr4036).mono ?_
    rintro e_ w4063 ⟨p4038, c4039, sg4040, rfl, ho4041, K4065⟩
    refine ⟨_, rfl, ?_⟩
    exact W_nil (ob_end (.slice p4038 r4036.length c4039) sg4040 rfl (by kernel_rfl) ⟨p4038, c4039, rfl, ho4041⟩ (Mem.callMid M4062 K4065))
  · intro g4034 f4035
    intro R w4066 M4067
    refine W_run 1 [(6, .pointer (some ⟨b4024, 1, none⟩))] w4066 (by kernel_rfl) ?_
    exact W_nil (ob_end (.pointer (some ⟨b4024, 1, none⟩)) [] rfl (by kernel_rfl) ⟨by kernel_rfl, rfl⟩ M4067)
  · intro g4034 f4035
    intro v3_ hb3_
    obtain ⟨rfl, _⟩ := hb3_
    intro R w4070 M4071
    refine W_val (.slice p4004 x3998.Copy.length c4005) w4070 (by kernel_rfl) (E_load (e := 28) (fr := (0, 0)) _ _ false 1 b4024 1 [.slice p4000 x3998.Memory.length c4001, .slice p4004 x3998.Copy.length c4005, .slice p4008 x3998.Dirty.length c4009] (.slice p4004 x3998.Copy.length c4005) rfl (by kernel_rfl) (by kernel_rfl) (by kernel_rfl) (M4071.blk 0 (b := b4024) (o := .cells ⟨[.slice p4000 x3998.Memory.length c4001, .slice p4004 x3998.Copy.length c4005, .slice p4008 x3998.Dirty.length c4009]⟩ 28 (0, 0)) (by kernel_rfl))) ?_
    exact W_nil (ob_end (.slice p4004 x3998.Copy.length c4005) [] rfl (by kernel_rfl) ⟨by kernel_rfl, rfl⟩ M4071)
  · intro g4034 f4035
    intro v4_ hb4_
    obtain ⟨rfl, _⟩ := hb4_
    intro R w4074 M4075
    refine W_call 62 #[.slice p4004 x3998.Copy.length c4005] (by kernel_rfl) (by kernel_rfl) ?_
    refine (c_i_copyInts w4074 x3998.Copy p4004 c4005 (h4006.mem0 M4075) hr4042).mono ?_
    rintro e_ w4076 ⟨p4044, c4045, sg4046, rfl, ho4047, K4078⟩
    refine ⟨_, rfl, ?_⟩
    exact W_nil (ob_end (.slice p4044 r4042.length c4045) sg4046 rfl (by kernel_rfl) ⟨p4044, c4045, rfl, ho4047⟩ (Mem.callMid M4075 K4078))
  · intro g4034 f4035
    intro R w4079 M4080
    refine W_lit (E := encB) ([] : List Bool) 0 [] 4 M4080 (by kernel_rfl) (by kernel_rfl) (by kernel_rfl) (by kernel_rfl) (by kernel_rfl) ?_
    intro p4049 c4050 sg4051 w4081 ho4052 M4082
    exact W_nil (ob_end (.slice p4049 ([] : List Bool).length c4050) sg4051 rfl (by kernel_rfl) ⟨p4049, c4050, rfl, ho4052⟩ (Mem.mid M4082))
  · intro g4034 f4035
    intro R w4083 M4084
    refine W_run 1 [(10, .pointer (some ⟨b4024, 2, none⟩))] w4083 (by kernel_rfl) ?_
    exact W_nil (ob_end (.pointer (some ⟨b4024, 2, none⟩)) [] rfl (by kernel_rfl) ⟨by kernel_rfl, rfl⟩ M4084)
  · intro g4034 f4035
    intro v7_ hb7_
    obtain ⟨rfl, _⟩ := hb7_
    intro R w4087 M4088
    refine W_val (.slice p4008 x3998.Dirty.length c4009) w4087 (by kernel_rfl) (E_load (e := 28) (fr := (0, 0)) _ _ false 1 b4024 2 [.slice p4000 x3998.Memory.length c4001, .slice p4004 x3998.Copy.length c4005, .slice p4008 x3998.Dirty.length c4009] (.slice p4008 x3998.Dirty.length c4009) rfl (by kernel_rfl) (by kernel_rfl) (by kernel_rfl) (M4088.blk 0 (b := b4024) (o := .cells ⟨[.slice p4000 x3998.Memory.length c4001, .slice p4004 x3998.Copy.length c4005, .slice p4008 x3998.Dirty.length c4009]⟩ 28 (0, 0)) (by kernel_rfl))) ?_
    exact W_nil (ob_end (.slice p4008 x3998.Dirty.length c4009) [] rfl (by kernel_rfl) ⟨by kernel_rfl, rfl⟩ M4088)
  · intro g4034 f4035
    intro v2_ hb2_
    obtain ⟨p4038, c4039, rfl, ho4041⟩ := hb2_
    intro v5_ hb5_
    obtain ⟨p4044, c4045, rfl, ho4047⟩ := hb5_
    intro v6_ hb6_
    obtain ⟨p4049, c4050, rfl, ho4052⟩ := hb6_
    intro v8_ hb8_
    obtain ⟨rfl, _⟩ := hb8_
    intro w4091 M4092
    have M4093 : Mem [] w w4091 [[(b4024, .cells ⟨[.slice p4000 x3998.Memory.length c4001, .slice p4004 x3998.Copy.length c4005, .slice p4008 x3998.Dirty.length c4009]⟩ 28 (0, 0))], [(b4031, .cells ⟨[.slice none 0 0, .slice none 0 0, .slice none 0 0]⟩ 28 (0, 0))], (g4034 2), (g4034 5), (g4034 6)] := M4092
    obtain ⟨ap4094, hap4094, hm⟩ := gx_bind hm
    refine W_append (E := encB) _ _ _ 1 [.bool false] 4 c4009 M4093 ho4052 (by kernel_rfl) (by kernel_rfl) (by kernel_rfl) rfl (by kernel_rfl) (by kernel_rfl) (by kernel_rfl) (by kernel_rfl) (by kernel_rfl) (by kernel_rfl) (h4010.mem0 M4093) hap4094 ?_
    intro p4095 c4096 sg4097 w4098 ho4099 M4100
    refine W_run 1 [(2, .pointer (some ⟨b4031, 0, none⟩)), (13, .agg #[.slice p4038 r4036.length c4039, .slice p4044 r4042.length c4045, .slice p4095 ap4094.length c4096])] w4098 (by kernel_rfl) ?_
    refine W_store _ _ _ true 3 b4031 0 [.slice none 0 0, .slice none 0 0, .slice none 0 0] 28 (.agg #[.slice p4038 r4036.length c4039, .slice p4044 r4042.length c4045, .slice p4095 ap4094.length c4096]) 1 [.slice p4038 r4036.length c4039, .slice p4044 r4042.length c4045, .slice p4095 ap4094.length c4096] M4100 (by kernel_rfl) rfl (by kernel_rfl) (by kernel_rfl) (by kernel_rfl) (by kernel_rfl) (by kernel_rfl) (by kernel_rfl) (by kernel_rfl) (by kernel_rfl) ?_
    intro w4105 M4106
    refine W_nil ?_
    refine N_then ?_
    refine G_ret ?_
    obtain rfl := Option.some.inj hm
    refine N_ret [.agg #[.slice p4038 r4036.length c4039, .slice p4044 r4042.length c4045, .slice p4095 ap4094.length c4096]] (RVs_cons (RV_cell (g := true) (k := 3) (b := b4031) (off := 0) (cs := [.slice p4038 r4036.length c4039, .slice p4044 r4042.length c4045, .slice p4095 ap4094.length c4096]) (e := 28) (fr := (0, 0)) (v := .agg #[.slice p4038 r4036.length c4039, .slice p4044 r4042.length c4045, .slice p4095 ap4094.length c4096]) (M4106.blk 1 (b := b4031) (o := .cells ⟨[.slice p4038 r4036.length c4039, .slice p4044 r4042.length c4045, .slice p4095 ap4094.length c4096]⟩ 28 (0, 0)) (by kernel_rfl)) (by kernel_rfl) (by kernel_rfl) (by kernel_rfl)) RVs_nil) ?_
    exact ⟨p4038, c4039, (g4034 2), p4044, c4045, (g4034 5), p4095, c4096, sg4097, rfl, ho4041, ho4047, ho4099, M4106.pick [2, 3, 4] (by kernel_rfl)⟩
theorem c_i_Copying_store (w : World) (x4135 : Copying) (p4139 : Option Addr) (c4140 : Nat) (sg4141 : Seg) (ho4142 : ownS encI x4135.Memory p4139 c4140 sg4141) (p4144 : Option Addr) (c4145 : Nat) (sg4146 : Seg) (ho4147 : ownS encI x4135.Copy p4144 c4145 sg4146) (p4149 : Option Addr) (c4150 : Nat) (sg4151 : Seg) (ho4152 : ownS encB x4135.Dirty p4149 c4150 sg4151) (b4137 : Nat) (x4153 : Store) (hA : ∀ q ∈ List.flatten [[(b4137, .cells ⟨[.slice p4139 x4135.Memory.length c4140, .slice p4144 x4135.Copy.length c4145, .slice p4149 x4135.Dirty.length c4150]⟩ 28 (0, 0))], sg4141, sg4146, sg4151], w.heap[q.1]? = some q.2) (hN : (idsOf [[(b4137, .cells ⟨[.slice p4139 x4135.Memory.length c4140, .slice p4144 x4135.Copy.length c4145, .slice p4149 x4135.Dirty.length c4150]⟩ 28 (0, 0))], sg4141, sg4146, sg4151]).Nodup) {r : (List Int) × (List Int) × (List Bool)} (hm : M.i_Copying_store x4135 x4153 = some r) :
    Calls Try.prog 72 #[.pointer (some ⟨b4137, 0, none⟩), .agg #[.int .i64 x4153.Word, .int .i64 x4153.Value]] w fun e w' => ∃ (p4154 : Option Addr) (c4155 : Nat) (sg4156 : Seg), ∃ (p4157 : Option Addr) (c4158 : Nat) (sg4159 : Seg), ∃ (p4160 : Option Addr) (c4161 : Nat) (sg4162 : Seg), e = .returned (.tuple #[]) ∧ ownS encI r.1 p4154 c4155 sg4156 ∧ ownS encI r.2.1 p4157 c4158 sg4159 ∧ ownS encB r.2.2 p4160 c4161 sg4162 ∧ Mem (idsOf [[(b4137, .cells ⟨[.slice p4139 x4135.Memory.length c4140, .slice p4144 x4135.Copy.length c4145, .slice p4149 x4135.Dirty.length c4150]⟩ 28 (0, 0))], sg4141, sg4146, sg4151]) w w' [[(b4137, .cells ⟨[.slice p4154 r.1.length c4155, .slice p4157 r.2.1.length c4158, .slice p4160 r.2.2.length c4161]⟩ 28 (0, 0))], sg4156, sg4159, sg4162] := by
  unfold M.i_Copying_store at hm
  refine C_enter Try.func72 rfl (by kernel_rfl) ?_
  have M0 := Mem.start' w [[(b4137, .cells ⟨[.slice p4139 x4135.Memory.length c4140, .slice p4144 x4135.Copy.length c4145, .slice p4149 x4135.Dirty.length c4150]⟩ 28 (0, 0))], sg4141, sg4146, sg4151] hA hN
  refine G_seq ?_
  refine G_region ?_
  refine W_new (fun b => .pointer (some ⟨b, 0, none⟩)) (.cells ⟨[.int .i64 x4153.Word, .int .i64 x4153.Value]⟩ 46 (0, 0)) M0 rfl (by kernel_rfl) (by kernel_rfl) ?_
  intro b4164 w4165 M4166
  refine W_nil ?_
  refine N_then ?_
  obtain ⟨y4169, hy4169, hm⟩ := gx_bind hm
  have M4171 : Mem (idsOf [[(b4137, .cells ⟨[.slice p4139 x4135.Memory.length c4140, .slice p4144 x4135.Copy.length c4145, .slice p4149 x4135.Dirty.length c4150]⟩ 28 (0, 0))], sg4141, sg4146, sg4151]) w w4165 ([[(b4137, .cells ⟨[.slice p4139 x4135.Memory.length c4140, .slice p4144 x4135.Copy.length c4145, .slice p4149 x4135.Dirty.length c4150]⟩ 28 (0, 0))], sg4146, sg4151, [(b4164, .cells ⟨[.int .i64 x4153.Word, .int .i64 x4153.Value]⟩ 46 (0, 0))]] ++ (List.range 16).map (fun i => ([[], [], [], [], [], [], [], [], [], [], [], [], [], [], [], sg4141] : List Seg).getD i [])) := M4166.pick [0, 2, 3, 4, 300000, 300001, 300002, 300003, 300004, 300005, 300006, 300007, 300008, 300009, 300010, 300011, 300012, 300013, 300014, 1] (by kernel_rfl)
  refine G_sub [(0, .pointer (some ⟨b4137, 0, none⟩)), (1, .agg #[.int .i64 x4153.Word, .int .i64 x4153.Value]), (3, .pointer (some ⟨b4164, 0, none⟩))] (by kernel_rfl) ?_
  refine G_dagL 16 [[], [0], [1], [2], [], [4], [], [6], [7], [8], [], [10], [], [12], [3, 5], [13, 14]] [[], [], [], [], [], [], [], [], [], [], [], [], [], [], [], []] [[], [], [], [], [], [], [], [], [], [], [], [], [], [], [], []] [[], [], [], [], [], [], [], [], [], [], [], [], [], [], [], []] [[], [], [], [], [], [], [], [], [], [], [], [], [], [], [], []] [[], [], [], [], [], [], [], [], [], [], [], [], [], [], [15], []] (fun i => ([[], [], [], [], [], [], [], [], [], [], [], [], [], [], [], sg4141] : List Seg).getD i []) (fun i => ([fun f v s => v = (.pointer (some ⟨b4137, 0, none⟩) : Value) ∧ s = [], fun f v s => v = (.pointer (some ⟨b4137, 0, none⟩) : Value) ∧ s = [], fun f v s => v = (.pointer (some ⟨b4137, 0, none⟩) : Value) ∧ s = [], fun f v s => v = (.slice p4139 x4135.Memory.length c4140 : Value) ∧ s = [], fun f v s => v = (.pointer (some ⟨b4164, 0, none⟩) : Value) ∧ s = [], fun f v s => v = (.int .i64 x4153.Word : Value) ∧ s = [], fun f v s => v = (.pointer (some ⟨b4137, 0, none⟩) : Value) ∧ s = [], fun f v s => v = (.pointer (some ⟨b4137, 0, none⟩) : Value) ∧ s = [], fun f v s => v = (.pointer (some ⟨b4137, 2, none⟩) : Value) ∧ s = [], fun f v s => v = (.slice p4149 x4135.Dirty.length c4150 : Value) ∧ s = [], fun f v s => v = (.pointer (some ⟨b4164, 0, none⟩) : Value) ∧ s = [], fun f v s => v = (.int .i64 x4153.Word : Value) ∧ s = [], fun f v s => v = (.pointer (some ⟨b4164, 1, none⟩) : Value) ∧ s = [], fun f v s => v = (.int .i64 x4153.Value : Value) ∧ s = [], fun f v s => v = (elemP p4139 (x4153.Word.toNat * 1) : Value) ∧ s = [], fun f v s => v = undef ∧ ownS encI (x4135.Memory.set x4153.Word.toNat x4153.Value) p4139 c4140 s] : List ((Nat → Value) → Value → Seg → Prop)).getD i (fun _ _ _ => False)) (fun j f v => ∃ s, (fun i => ([fun f v s => v = (.pointer (some ⟨b4137, 0, none⟩) : Value) ∧ s = [], fun f v s => v = (.pointer (some ⟨b4137, 0, none⟩) : Value) ∧ s = [], fun f v s => v = (.pointer (some ⟨b4137, 0, none⟩) : Value) ∧ s = [], fun f v s => v = (.slice p4139 x4135.Memory.length c4140 : Value) ∧ s = [], fun f v s => v = (.pointer (some ⟨b4164, 0, none⟩) : Value) ∧ s = [], fun f v s => v = (.int .i64 x4153.Word : Value) ∧ s = [], fun f v s => v = (.pointer (some ⟨b4137, 0, none⟩) : Value) ∧ s = [], fun f v s => v = (.pointer (some ⟨b4137, 0, none⟩) : Value) ∧ s = [], fun f v s => v = (.pointer (some ⟨b4137, 2, none⟩) : Value) ∧ s = [], fun f v s => v = (.slice p4149 x4135.Dirty.length c4150 : Value) ∧ s = [], fun f v s => v = (.pointer (some ⟨b4164, 0, none⟩) : Value) ∧ s = [], fun f v s => v = (.int .i64 x4153.Word : Value) ∧ s = [], fun f v s => v = (.pointer (some ⟨b4164, 1, none⟩) : Value) ∧ s = [], fun f v s => v = (.int .i64 x4153.Value : Value) ∧ s = [], fun f v s => v = (elemP p4139 (x4153.Word.toNat * 1) : Value) ∧ s = [], fun f v s => v = undef ∧ ownS encI (x4135.Memory.set x4153.Word.toNat x4153.Value) p4139 c4140 s] : List ((Nat → Value) → Value → Seg → Prop)).getD i (fun _ _ _ => False)) j f v s) [] [9, 11, 15] [15] (fun _ _ _ s h => ⟨s, h⟩) (by kernel_rfl) (by kernel_rfl) M4171 (by kernel_rfl) (by kernel_rfl) (by kernel_rfl) (by kernel_rfl) (allOb_cons ?_ (allOb_cons ?_ (allOb_cons ?_ (allOb_cons ?_ (allOb_cons ?_ (allOb_cons ?_ (allOb_cons ?_ (allOb_cons ?_ (allOb_cons ?_ (allOb_cons ?_ (allOb_cons ?_ (allOb_cons ?_ (allOb_cons ?_ (allOb_cons ?_ (allOb_cons ?_ (allOb_cons ?_ allOb_nil)))))))))))))))) ?_
  · intro g4167 f4168
    intro R w4172 M4173
    refine W_run 1 [(4, .pointer (some ⟨b4137, 0, none⟩))] w4172 (by kernel_rfl) ?_
    exact W_nil (ob_end (.pointer (some ⟨b4137, 0, none⟩)) [] rfl (by kernel_rfl) ⟨by kernel_rfl, rfl⟩ M4173)
  · intro g4167 f4168
    intro v0_ hb0_
    obtain ⟨rfl, _⟩ := hb0_
    intro R w4176 M4177
    refine W_run 1 [(5, .pointer (some ⟨b4137, 0, none⟩))] w4176 (by kernel_rfl) ?_
    exact W_nil (ob_end (.pointer (some ⟨b4137, 0, none⟩)) [] rfl (by kernel_rfl) ⟨by kernel_rfl, rfl⟩ M4177)
  · intro g4167 f4168
    intro v1_ hb1_
    obtain ⟨rfl, _⟩ := hb1_
    intro R w4180 M4181
    refine W_run 1 [(6, .pointer (some ⟨b4137, 0, none⟩))] w4180 (by kernel_rfl) ?_
    exact W_nil (ob_end (.pointer (some ⟨b4137, 0, none⟩)) [] rfl (by kernel_rfl) ⟨by kernel_rfl, rfl⟩ M4181)
  · intro g4167 f4168
    intro v2_ hb2_
    obtain ⟨rfl, _⟩ := hb2_
    intro R w4184 M4185
    refine W_val (.slice p4139 x4135.Memory.length c4140) w4184 (by kernel_rfl) (E_load (e := 28) (fr := (0, 0)) _ _ false 1 b4137 0 [.slice p4139 x4135.Memory.length c4140, .slice p4144 x4135.Copy.length c4145, .slice p4149 x4135.Dirty.length c4150] (.slice p4139 x4135.Memory.length c4140) rfl (by kernel_rfl) (by kernel_rfl) (by kernel_rfl) (M4185.blk 0 (b := b4137) (o := .cells ⟨[.slice p4139 x4135.Memory.length c4140, .slice p4144 x4135.Copy.length c4145, .slice p4149 x4135.Dirty.length c4150]⟩ 28 (0, 0)) (by kernel_rfl))) ?_
    exact W_nil (ob_end (.slice p4139 x4135.Memory.length c4140) [] rfl (by kernel_rfl) ⟨by kernel_rfl, rfl⟩ M4185)
  · intro g4167 f4168
    intro R w4188 M4189
    refine W_run 1 [(8, .pointer (some ⟨b4164, 0, none⟩))] w4188 (by kernel_rfl) ?_
    exact W_nil (ob_end (.pointer (some ⟨b4164, 0, none⟩)) [] rfl (by kernel_rfl) ⟨by kernel_rfl, rfl⟩ M4189)
  · intro g4167 f4168
    intro v4_ hb4_
    obtain ⟨rfl, _⟩ := hb4_
    intro R w4192 M4193
    refine W_val (.int .i64 x4153.Word) w4192 (by kernel_rfl) (E_load (e := 46) (fr := (0, 0)) _ _ false 1 b4164 0 [.int .i64 x4153.Word, .int .i64 x4153.Value] (.int .i64 x4153.Word) rfl (by kernel_rfl) (by kernel_rfl) (by kernel_rfl) (M4193.blk 3 (b := b4164) (o := .cells ⟨[.int .i64 x4153.Word, .int .i64 x4153.Value]⟩ 46 (0, 0)) (by kernel_rfl))) ?_
    exact W_nil (ob_end (.int .i64 x4153.Word) [] rfl (by kernel_rfl) ⟨by kernel_rfl, rfl⟩ M4193)
  · intro g4167 f4168
    intro R w4196 M4197
    refine W_run 1 [(10, .pointer (some ⟨b4137, 0, none⟩))] w4196 (by kernel_rfl) ?_
    exact W_nil (ob_end (.pointer (some ⟨b4137, 0, none⟩)) [] rfl (by kernel_rfl) ⟨by kernel_rfl, rfl⟩ M4197)
  · intro g4167 f4168
    intro v6_ hb6_
    obtain ⟨rfl, _⟩ := hb6_
    intro R w4200 M4201
    refine W_run 1 [(11, .pointer (some ⟨b4137, 0, none⟩))] w4200 (by kernel_rfl) ?_
    exact W_nil (ob_end (.pointer (some ⟨b4137, 0, none⟩)) [] rfl (by kernel_rfl) ⟨by kernel_rfl, rfl⟩ M4201)
  · intro g4167 f4168
    intro v7_ hb7_
    obtain ⟨rfl, _⟩ := hb7_
    intro R w4204 M4205
    refine W_run 1 [(12, .pointer (some ⟨b4137, 2, none⟩))] w4204 (by kernel_rfl) ?_
    exact W_nil (ob_end (.pointer (some ⟨b4137, 2, none⟩)) [] rfl (by kernel_rfl) ⟨by kernel_rfl, rfl⟩ M4205)
  · intro g4167 f4168
    intro v8_ hb8_
    obtain ⟨rfl, _⟩ := hb8_
    intro R w4208 M4209
    refine W_val (.slice p4149 x4135.Dirty.length c4150) w4208 (by kernel_rfl) (E_load (e := 28) (fr := (0, 0)) _ _ false 1 b4137 2 [.slice p4139 x4135.Memory.length c4140, .slice p4144 x4135.Copy.length c4145, .slice p4149 x4135.Dirty.length c4150] (.slice p4149 x4135.Dirty.length c4150) rfl (by kernel_rfl) (by kernel_rfl) (by kernel_rfl) (M4209.blk 0 (b := b4137) (o := .cells ⟨[.slice p4139 x4135.Memory.length c4140, .slice p4144 x4135.Copy.length c4145, .slice p4149 x4135.Dirty.length c4150]⟩ 28 (0, 0)) (by kernel_rfl))) ?_
    exact W_nil (ob_end (.slice p4149 x4135.Dirty.length c4150) [] rfl (by kernel_rfl) ⟨by kernel_rfl, rfl⟩ M4209)
  · intro g4167 f4168
    intro R w4212 M4213
    refine W_run 1 [(14, .pointer (some ⟨b4164, 0, none⟩))] w4212 (by kernel_rfl) ?_
    exact W_nil (ob_end (.pointer (some ⟨b4164, 0, none⟩)) [] rfl (by kernel_rfl) ⟨by kernel_rfl, rfl⟩ M4213)
  · intro g4167 f4168
    intro v10_ hb10_
    obtain ⟨rfl, _⟩ := hb10_
    intro R w4216 M4217
    refine W_val (.int .i64 x4153.Word) w4216 (by kernel_rfl) (E_load (e := 46) (fr := (0, 0)) _ _ false 1 b4164 0 [.int .i64 x4153.Word, .int .i64 x4153.Value] (.int .i64 x4153.Word) rfl (by kernel_rfl) (by kernel_rfl) (by kernel_rfl) (M4217.blk 3 (b := b4164) (o := .cells ⟨[.int .i64 x4153.Word, .int .i64 x4153.Value]⟩ 46 (0, 0)) (by kernel_rfl))) ?_
    exact W_nil (ob_end (.int .i64 x4153.Word) [] rfl (by kernel_rfl) ⟨by kernel_rfl, rfl⟩ M4217)
  · intro g4167 f4168
    intro R w4220 M4221
    refine W_run 1 [(16, .pointer (some ⟨b4164, 1, none⟩))] w4220 (by kernel_rfl) ?_
    exact W_nil (ob_end (.pointer (some ⟨b4164, 1, none⟩)) [] rfl (by kernel_rfl) ⟨by kernel_rfl, rfl⟩ M4221)
  · intro g4167 f4168
    intro v12_ hb12_
    obtain ⟨rfl, _⟩ := hb12_
    intro R w4224 M4225
    refine W_val (.int .i64 x4153.Value) w4224 (by kernel_rfl) (E_load (e := 46) (fr := (0, 0)) _ _ false 1 b4164 1 [.int .i64 x4153.Word, .int .i64 x4153.Value] (.int .i64 x4153.Value) rfl (by kernel_rfl) (by kernel_rfl) (by kernel_rfl) (M4225.blk 3 (b := b4164) (o := .cells ⟨[.int .i64 x4153.Word, .int .i64 x4153.Value]⟩ 46 (0, 0)) (by kernel_rfl))) ?_
    exact W_nil (ob_end (.int .i64 x4153.Value) [] rfl (by kernel_rfl) ⟨by kernel_rfl, rfl⟩ M4225)
  · intro g4167 f4168
    intro v3_ hb3_
    obtain ⟨rfl, _⟩ := hb3_
    intro v5_ hb5_
    obtain ⟨rfl, _⟩ := hb5_
    intro R w4228 M4229
    refine W_val (elemP p4139 (x4153.Word.toNat * 1)) w4228 (by kernel_rfl) (E_index (E := encI) _ _ _ x4135.Memory.length c4140 .i64 x4153.Word 1 (y := y4169) rfl (by kernel_rfl) (by kernel_rfl) (by kernel_rfl) (ho4142.rd M4229 5 (by kernel_rfl)) rfl hy4169) ?_
    exact W_nil (ob_end (elemP p4139 (x4153.Word.toNat * 1)) [] rfl (by kernel_rfl) ⟨by kernel_rfl, rfl⟩ M4229)
  · intro g4167 f4168
    intro v13_ hb13_
    obtain ⟨rfl, _⟩ := hb13_
    intro v14_ hb14_
    obtain ⟨rfl, _⟩ := hb14_
    intro R w4232 M4233
    refine W_storeE (E := encI) _ _ _ false 1 x4153.Word.toNat 0 (x4153.Word.toNat * 1) y4169 x4153.Value (.int .i64 x4153.Value) 4 M4233 ho4142 (by kernel_rfl) (by kernel_rfl) rfl (by kernel_rfl) (by kernel_rfl) (by kernel_rfl) (by kernel_rfl) (by kernel_rfl) (by kernel_rfl) (by kernel_rfl) (gxIdx_spec hy4169).2 rfl ?_
    intro w4234 sg4236 ho4237 M4235
    exact W_nil (ob_none sg4236 rfl ⟨rfl, ho4237⟩ M4235)
  · intro g4167 f4168
    intro v9_ hb9_
    obtain ⟨rfl, _⟩ := hb9_
    intro v11_ hb11_
    obtain ⟨rfl, _⟩ := hb11_
    intro v15_ hb15_
    obtain ⟨rfl, ho4170⟩ := hb15_
    intro w4238 M4239
    have M4240 : Mem (idsOf [[(b4137, .cells ⟨[.slice p4139 x4135.Memory.length c4140, .slice p4144 x4135.Copy.length c4145, .slice p4149 x4135.Dirty.length c4150]⟩ 28 (0, 0))], sg4141, sg4146, sg4151]) w w4238 [[(b4137, .cells ⟨[.slice p4139 x4135.Memory.length c4140, .slice p4144 x4135.Copy.length c4145, .slice p4149 x4135.Dirty.length c4150]⟩ 28 (0, 0))], sg4146, sg4151, [(b4164, .cells ⟨[.int .i64 x4153.Word, .int .i64 x4153.Value]⟩ 46 (0, 0))], (g4167 15)] := M4239
    have M4241 : Mem (idsOf [[(b4137, .cells ⟨[.slice p4139 x4135.Memory.length c4140, .slice p4144 x4135.Copy.length c4145, .slice p4149 x4135.Dirty.length c4150]⟩ 28 (0, 0))], sg4141, sg4146, sg4151]) w w4238 [[(b4137, .cells ⟨[.slice p4139 (x4135.Memory.set x4153.Word.toNat x4153.Value).length c4140, .slice p4144 x4135.Copy.length c4145, .slice p4149 x4135.Dirty.length c4150]⟩ 28 (0, 0))], sg4146, sg4151, [(b4164, .cells ⟨[.int .i64 x4153.Word, .int .i64 x4153.Value]⟩ 46 (0, 0))], (g4167 15)] := by rw [@List.length_set _ x4135.Memory x4153.Word.toNat x4153.Value]; exact M4240
    obtain ⟨y4242, hy4242, hm⟩ := gx_bind hm
    refine W_val (elemP p4149 (x4153.Word.toNat * 1)) w4238 (by kernel_rfl) (E_index (E := encB) _ _ _ x4135.Dirty.length c4150 .i64 x4153.Word 1 (y := y4242) rfl (by kernel_rfl) (by kernel_rfl) (by kernel_rfl) (ho4152.rd M4241 2 (by kernel_rfl)) rfl hy4242) ?_
    refine W_storeE (E := encB) _ _ _ false 1 x4153.Word.toNat 0 (x4153.Word.toNat * 1) y4242 true (.bool true) 2 M4241 ho4152 (by kernel_rfl) (by kernel_rfl) rfl (by kernel_rfl) (by kernel_rfl) (by kernel_rfl) (by kernel_rfl) (by kernel_rfl) (by kernel_rfl) (by kernel_rfl) (gxIdx_spec hy4242).2 rfl ?_
    intro w4243 sg4245 ho4246 M4244
    refine W_conv 13 (.slice p4149 x4135.Dirty.length c4150) (.slice p4149 (x4135.Dirty.set x4153.Word.toNat true).length c4150) (by kernel_rfl) (by rw [@List.length_set _ x4135.Dirty x4153.Word.toNat true]) ?_
    have M4247 : Mem (idsOf [[(b4137, .cells ⟨[.slice p4139 x4135.Memory.length c4140, .slice p4144 x4135.Copy.length c4145, .slice p4149 x4135.Dirty.length c4150]⟩ 28 (0, 0))], sg4141, sg4146, sg4151]) w w4243 [[(b4137, .cells ⟨[.slice p4139 (x4135.Memory.set x4153.Word.toNat x4153.Value).length c4140, .slice p4144 x4135.Copy.length c4145, .slice p4149 (x4135.Dirty.set x4153.Word.toNat true).length c4150]⟩ 28 (0, 0))], sg4146, sg4245, [(b4164, .cells ⟨[.int .i64 x4153.Word, .int .i64 x4153.Value]⟩ 46 (0, 0))], (g4167 15)] := by rw [@List.length_set _ x4135.Dirty x4153.Word.toNat true]; exact M4244
    refine W_nil ?_
    obtain rfl := Option.some.inj hm
    refine N_end [] (RVs_nil) ?_
    exact ⟨p4139, c4140, (g4167 15), p4144, c4145, sg4146, p4149, c4150, sg4245, rfl, ho4170, ho4147, ho4246, M4247.pick [0, 4, 1, 2] (by kernel_rfl)⟩
theorem c_i_StoreWord (w : World) (x3879 : Copying) (p3881 : Option Addr) (c3882 : Nat) (h3883 : rdS encI w x3879.Memory p3881 c3882) (p3885 : Option Addr) (c3886 : Nat) (h3887 : rdS encI w x3879.Copy p3885 c3886) (p3889 : Option Addr) (c3890 : Nat) (h3891 : rdS encB w x3879.Dirty p3889 c3890) (x3892 : Store) {r : Copying × Bool} (hm : M.i_StoreWord x3879 x3892 = some r) :
    Calls Try.prog 32 #[.agg #[.slice p3881 x3879.Memory.length c3882, .slice p3885 x3879.Copy.length c3886, .slice p3889 x3879.Dirty.length c3890], .agg #[.int .i64 x3892.Word, .int .i64 x3892.Value]] w fun e w' => ∃ (p3894 : Option Addr) (c3895 : Nat) (sg3896 : Seg), ∃ (p3898 : Option Addr) (c3899 : Nat) (sg3900 : Seg), ∃ (p3902 : Option Addr) (c3903 : Nat) (sg3904 : Seg), e = .returned (.tuple #[.agg #[.slice p3894 r.1.Memory.length c3895, .slice p3898 r.1.Copy.length c3899, .slice p3902 r.1.Dirty.length c3903], .bool r.2]) ∧ ownS encI r.1.Memory p3894 c3895 sg3896 ∧ ownS encI r.1.Copy p3898 c3899 sg3900 ∧ ownS encB r.1.Dirty p3902 c3903 sg3904 ∧ Mem [] w w' [sg3896, sg3900, sg3904] := by
  unfold M.i_StoreWord at hm
  refine C_enter Try.func32 rfl (by kernel_rfl) ?_
  have M0 := Mem.refl [] w
  refine G_seq ?_
  refine G_region ?_
  refine W_new (fun b => .pointer (some ⟨b, 0, none⟩)) (.cells ⟨[.slice p3881 x3879.Memory.length c3882, .slice p3885 x3879.Copy.length c3886, .slice p3889 x3879.Dirty.length c3890]⟩ 28 (0, 0)) M0 rfl (by kernel_rfl) (by kernel_rfl) ?_
  intro b3906 w3907 M3908
  refine W_new (fun b => .pointer (some ⟨b, 0, none⟩)) (.cells ⟨[.int .i64 x3892.Word, .int .i64 x3892.Value]⟩ 46 (0, 0)) M3908 rfl (by kernel_rfl) (by kernel_rfl) ?_
  intro b3910 w3911 M3912
  refine W_new (fun b => .pointer (some ⟨b, 0, none⟩)) (.cells ⟨[.slice none 0 0, .slice none 0 0, .slice none 0 0]⟩ 28 (0, 0)) M3912 rfl (by kernel_rfl) (by kernel_rfl) ?_
  intro b3917 w3918 M3919
  refine W_run 1 [(2, .pointer (some ⟨b3906, 0, none⟩)), (3, .pointer (some ⟨b3910, 0, none⟩)), (4, .pointer (some ⟨b3917, 0, none⟩))] w3918 (by kernel_rfl) ?_
  refine W_nil ?_
  refine N_then ?_
  refine G_seq ?_
  refine G_seq ?_
  obtain ⟨o3976, ho3977, hm3978⟩ := gx_bind hm
  refine G_meet (fun a w' => Mem [] w w' [[(b3906, .cells ⟨[.slice p3881 x3879.Memory.length c3882, .slice p3885 x3879.Copy.length c3886, .slice p3889 x3879.Dirty.length c3890]⟩ 28 (0, 0))], [(b3910, .cells ⟨[.int .i64 x3892.Word, .int .i64 x3892.Value]⟩ 46 (0, 0))], [(b3917, .cells ⟨[.slice none 0 0, .slice none 0 0, .slice none 0 0]⟩ 28 (0, 0))]] ∧ Sat Try.f32.ntmps [(2, .pointer (some ⟨b3906, 0, none⟩)), (3, .pointer (some ⟨b3910, 0, none⟩)), (4, .pointer (some ⟨b3917, 0, none⟩)), (15, .bool o3976)] a) ?_ ?_
  · have hm := ho3977
    refine G_region ?_
    refine W_val (.agg #[.slice p3881 x3879.Memory.length c3882, .slice p3885 x3879.Copy.length c3886, .slice p3889 x3879.Dirty.length c3890]) w3918 (by kernel_rfl) (E_load (e := 28) (fr := (0, 0)) _ _ true 3 b3906 0 [.slice p3881 x3879.Memory.length c3882, .slice p3885 x3879.Copy.length c3886, .slice p3889 x3879.Dirty.length c3890] (.agg #[.slice p3881 x3879.Memory.length c3882, .slice p3885 x3879.Copy.length c3886, .slice p3889 x3879.Dirty.length c3890]) rfl (by kernel_rfl) (by kernel_rfl) (by kernel_rfl) (M3919.blk 0 (b := b3906) (o := .cells ⟨[.slice p3881 x3879.Memory.length c3882, .slice p3885 x3879.Copy.length c3886, .slice p3889 x3879.Dirty.length c3890]⟩ 28 (0, 0)) (by kernel_rfl))) ?_
    obtain ⟨r3979, hr3979, hm⟩ := gx_bind hm
    refine W_call 16 #[.agg #[.slice p3881 x3879.Memory.length c3882, .slice p3885 x3879.Copy.length c3886, .slice p3889 x3879.Dirty.length c3890]] (by kernel_rfl) (by kernel_rfl) ?_
    refine (c_i_IsCopying w3918 x3879 p3881 c3882 (h3883.mem0 M3919) p3885 c3886 (h3887.mem0 M3919) p3889 c3890 (h3891.mem0 M3919) hr3979).mono ?_
    rintro e_ w3980 ⟨rfl, K3981⟩
    have M3982 := M3919.call0 K3981
    refine ⟨_, rfl, ?_⟩
    refine W_run 2 [(2, .pointer (some ⟨b3906, 0, none⟩)), (3, .pointer (some ⟨b3910, 0, none⟩)), (4, .pointer (some ⟨b3917, 0, none⟩)), (10, .bool (!r3979))] w3980 (by kernel_rfl) ?_
    rcases gx_bif hm with ⟨hc3983, hm⟩ | ⟨hc3983, hm⟩
    · refine W_known 10 true (by kernel_rfl) hc3983 ?_
      refine W_run 5 [(2, .pointer (some ⟨b3906, 0, none⟩)), (3, .pointer (some ⟨b3910, 0, none⟩)), (4, .pointer (some ⟨b3917, 0, none⟩)), (15, .bool true)] w3980 (by kernel_rfl) ?_
      refine W_nil ?_
      obtain rfl := Option.some.inj hm
      exact N_meet fun a ha => ⟨M3982.pick [0, 1, 2] (by kernel_rfl), ha.sub (by kernel_rfl)⟩
    · refine W_known 10 false (by kernel_rfl) hc3983 ?_
      refine W_val (.agg #[.slice p3881 x3879.Memory.length c3882, .slice p3885 x3879.Copy.length c3886, .slice p3889 x3879.Dirty.length c3890]) w3980 (by kernel_rfl) (E_load (e := 28) (fr := (0, 0)) _ _ true 3 b3906 0 [.slice p3881 x3879.Memory.length c3882, .slice p3885 x3879.Copy.length c3886, .slice p3889 x3879.Dirty.length c3890] (.agg #[.slice p3881 x3879.Memory.length c3882, .slice p3885 x3879.Copy.length c3886, .slice p3889 x3879.Dirty.length c3890]) rfl (by kernel_rfl) (by kernel_rfl) (by kernel_rfl) (M3982.blk 0 (b := b3906) (o := .cells ⟨[.slice p3881 x3879.Memory.length c3882, .slice p3885 x3879.Copy.length c3886, .slice p3889 x3879.Dirty.length c3890]⟩ 28 (0, 0)) (by kernel_rfl))) ?_
      refine W_val (.agg #[.int .i64 x3892.Word, .int .i64 x3892.Value]) w3980 (by kernel_rfl) (E_load (e := 46) (fr := (0, 0)) _ _ true 2 b3910 0 [.int .i64 x3892.Word, .int .i64 x3892.Value] (.agg #[.int .i64 x3892.Word, .int .i64 x3892.Value]) rfl (by kernel_rfl) (by kernel_rfl) (by kernel_rfl) (M3982.blk 1 (b := b3910) (o := .cells ⟨[.int .i64 x3892.Word, .int .i64 x3892.Value]⟩ 46 (0, 0)) (by kernel_rfl))) ?_
      obtain ⟨r3984, hr3984, hm⟩ := gx_bind hm
      refine W_call 70 #[.agg #[.slice p3881 x3879.Memory.length c3882, .slice p3885 x3879.Copy.length c3886, .slice p3889 x3879.Dirty.length c3890], .agg #[.int .i64 x3892.Word, .int .i64 x3892.Value]] (by kernel_rfl) (by kernel_rfl) ?_
      refine (c_i_isStore w3980 x3879 p3881 c3882 (h3883.mem0 M3982) p3885 c3886 (h3887.mem0 M3982) p3889 c3890 (h3891.mem0 M3982) x3892 hr3984).mono ?_
      rintro e_ w3985 ⟨rfl, K3986⟩
      have M3987 := M3982.call0 K3986
      refine ⟨_, rfl, ?_⟩
      refine W_run 2 [(2, .pointer (some ⟨b3906, 0, none⟩)), (3, .pointer (some ⟨b3910, 0, none⟩)), (4, .pointer (some ⟨b3917, 0, none⟩)), (15, .bool (!r3984))] w3985 (by kernel_rfl) ?_
      refine W_nil ?_
      obtain rfl := Option.some.inj hm
      exact N_meet fun a ha => ⟨M3987.pick [0, 1, 2] (by kernel_rfl), ha.sub (by kernel_rfl)⟩
  · intro a3990 w3988 ⟨M3989, hS3991⟩
    refine N_use hS3991 ?_
    have hm := hm3978
    refine N_then ?_
    rcases gx_bif hm with ⟨hc3992, hm⟩ | ⟨hc3992, hm⟩
    · refine G_cond_t (b := o3976) hc3992 (by kernel_rfl) ?_
      refine G_seq ?_
      refine G_region ?_
      refine W_run 1 [(4, .pointer (some ⟨b3917, 0, none⟩)), (16, .agg #[.slice none 0 0, .slice none 0 0, .slice none 0 0])] w3988 (by kernel_rfl) ?_
      refine W_store _ _ _ true 3 b3917 0 [.slice none 0 0, .slice none 0 0, .slice none 0 0] 28 (.agg #[.slice none 0 0, .slice none 0 0, .slice none 0 0]) 2 [.slice none 0 0, .slice none 0 0, .slice none 0 0] M3989 (by kernel_rfl) rfl (by kernel_rfl) (by kernel_rfl) (by kernel_rfl) (by kernel_rfl) (by kernel_rfl) (by kernel_rfl) (by kernel_rfl) (by kernel_rfl) ?_
      intro w3996 M3997
      refine W_run 1 [(4, .pointer (some ⟨b3917, 0, none⟩)), (5, .bool false)] w3996 (by kernel_rfl) ?_
      refine W_nil ?_
      refine N_then ?_
      refine G_ret ?_
      refine N_then_ret ?_
      obtain rfl := Option.some.inj hm
      refine N_ret [.agg #[.slice none 0 0, .slice none 0 0, .slice none 0 0], .bool false] (RVs_cons (RV_cell (g := true) (k := 3) (b := b3917) (off := 0) (cs := [.slice none 0 0, .slice none 0 0, .slice none 0 0]) (e := 28) (fr := (0, 0)) (v := .agg #[.slice none 0 0, .slice none 0 0, .slice none 0 0]) (M3997.blk 2 (b := b3917) (o := .cells ⟨[.slice none 0 0, .slice none 0 0, .slice none 0 0]⟩ 28 (0, 0)) (by kernel_rfl)) (by kernel_rfl) (by kernel_rfl) (by kernel_rfl)) (RVs_cons (RV_tmp (by kernel_rfl)) RVs_nil)) ?_
      exact ⟨none, 0, [], none, 0, [], none, 0, [], rfl, ownS_nil, ownS_nil, ownS_nil, M3997.pick [100000, 100001, 100002] (by kernel_rfl)⟩
    · refine G_cond_f (b := o3976) hc3992 (by kernel_rfl) ?_
      refine G_skip ?_
      refine N_then ?_
      refine G_seq ?_
      refine G_region ?_
      refine W_val (.agg #[.slice p3881 x3879.Memory.length c3882, .slice p3885 x3879.Copy.length c3886, .slice p3889 x3879.Dirty.length c3890]) w3988 (by kernel_rfl) (E_load (e := 28) (fr := (0, 0)) _ _ true 3 b3906 0 [.slice p3881 x3879.Memory.length c3882, .slice p3885 x3879.Copy.length c3886, .slice p3889 x3879.Dirty.length c3890] (.agg #[.slice p3881 x3879.Memory.length c3882, .slice p3885 x3879.Copy.length c3886, .slice p3889 x3879.Dirty.length c3890]) rfl (by kernel_rfl) (by kernel_rfl) (by kernel_rfl) (M3989.blk 0 (b := b3906) (o := .cells ⟨[.slice p3881 x3879.Memory.length c3882, .slice p3885 x3879.Copy.length c3886, .slice p3889 x3879.Dirty.length c3890]⟩ 28 (0, 0)) (by kernel_rfl))) ?_
      obtain ⟨r4107, hr4107, hm⟩ := gx_bind hm
      refine W_call 71 #[.agg #[.slice p3881 x3879.Memory.length c3882, .slice p3885 x3879.Copy.length c3886, .slice p3889 x3879.Dirty.length c3890]] (by kernel_rfl) (by kernel_rfl) ?_
      refine (c_i_newCopying w3988 x3879 p3881 c3882 (h3883.mem0 M3989) p3885 c3886 (h3887.mem0 M3989) p3889 c3890 (h3891.mem0 M3989) hr4107).mono ?_
      rintro e_ w4123 ⟨p4109, c4110, sg4111, p4114, c4115, sg4116, p4119, c4120, sg4121, rfl, ho4112, ho4117, ho4122, K4124⟩
      have M4125 := M3989.call K4124
      refine ⟨_, rfl, ?_⟩
      refine W_new (fun b => .pointer (some ⟨b, 0, none⟩)) (.cells ⟨[.slice none 0 0, .slice none 0 0, .slice none 0 0]⟩ 28 (0, 0)) M4125 rfl (by kernel_rfl) (by kernel_rfl) ?_
      intro b4130 w4131 M4132
      refine W_store _ _ _ true 3 b4130 0 [.slice none 0 0, .slice none 0 0, .slice none 0 0] 28 (.agg #[.slice p4109 r4107.Memory.length c4110, .slice p4114 r4107.Copy.length c4115, .slice p4119 r4107.Dirty.length c4120]) 6 [.slice p4109 r4107.Memory.length c4110, .slice p4114 r4107.Copy.length c4115, .slice p4119 r4107.Dirty.length c4120] M4132 (by kernel_rfl) rfl (by kernel_rfl) (by kernel_rfl) (by kernel_rfl) (by kernel_rfl) (by kernel_rfl) (by kernel_rfl) (by kernel_rfl) (by kernel_rfl) ?_
      intro w4133 M4134
      refine W_nil ?_
      refine N_then ?_
      refine G_seq ?_
      refine G_region ?_
      refine W_val (.agg #[.int .i64 x3892.Word, .int .i64 x3892.Value]) w4133 (by kernel_rfl) (E_load (e := 46) (fr := (0, 0)) _ _ true 2 b3910 0 [.int .i64 x3892.Word, .int .i64 x3892.Value] (.agg #[.int .i64 x3892.Word, .int .i64 x3892.Value]) rfl (by kernel_rfl) (by kernel_rfl) (by kernel_rfl) (M4134.blk 1 (b := b3910) (o := .cells ⟨[.int .i64 x3892.Word, .int .i64 x3892.Value]⟩ 46 (0, 0)) (by kernel_rfl))) ?_
      obtain ⟨r4248, hr4248, hm⟩ := gx_bind hm
      refine W_call 72 #[.pointer (some ⟨b4130, 0, none⟩), .agg #[.int .i64 x3892.Word, .int .i64 x3892.Value]] (by kernel_rfl) (by kernel_rfl) ?_
      refine (c_i_Copying_store w4133 r4107 p4109 c4110 sg4111 ho4112 p4114 c4115 sg4116 ho4117 p4119 c4120 sg4121 ho4122 b4130 x3892 (M4134.hasPick [6, 3, 4, 5]) (M4134.nodupPick [6, 3, 4, 5] (by kernel_rfl)) hr4248).mono ?_
      rintro e_ w4264 ⟨p4250, c4251, sg4252, p4255, c4256, sg4257, p4260, c4261, sg4262, rfl, ho4253, ho4258, ho4263, K4265⟩
      have M4266 := M4134.callF' [6, 3, 4, 5] [0, 1, 2] (by kernel_rfl) K4265
      refine ⟨_, rfl, ?_⟩
      refine W_nil ?_
      refine N_then ?_
      refine G_seq ?_
      refine G_region ?_
      refine W_val (.agg #[.slice p4250 r4248.1.length c4251, .slice p4255 r4248.2.1.length c4256, .slice p4260 r4248.2.2.length c4261]) w4264 (by kernel_rfl) (E_load (e := 28) (fr := (0, 0)) _ _ true 3 b4130 0 [.slice p4250 r4248.1.length c4251, .slice p4255 r4248.2.1.length c4256, .slice p4260 r4248.2.2.length c4261] (.agg #[.slice p4250 r4248.1.length c4251, .slice p4255 r4248.2.1.length c4256, .slice p4260 r4248.2.2.length c4261]) rfl (by kernel_rfl) (by kernel_rfl) (by kernel_rfl) (M4266.blk 3 (b := b4130) (o := .cells ⟨[.slice p4250 r4248.1.length c4251, .slice p4255 r4248.2.1.length c4256, .slice p4260 r4248.2.2.length c4261]⟩ 28 (0, 0)) (by kernel_rfl))) ?_
      refine W_store _ _ _ true 3 b3917 0 [.slice none 0 0, .slice none 0 0, .slice none 0 0] 28 (.agg #[.slice p4250 r4248.1.length c4251, .slice p4255 r4248.2.1.length c4256, .slice p4260 r4248.2.2.length c4261]) 2 [.slice p4250 r4248.1.length c4251, .slice p4255 r4248.2.1.length c4256, .slice p4260 r4248.2.2.length c4261] M4266 (by kernel_rfl) rfl (by kernel_rfl) (by kernel_rfl) (by kernel_rfl) (by kernel_rfl) (by kernel_rfl) (by kernel_rfl) (by kernel_rfl) (by kernel_rfl) ?_
      intro w4267 M4268
      refine W_run 1 [(4, .pointer (some ⟨b3917, 0, none⟩)), (5, .bool true)] w4267 (by kernel_rfl) ?_
      refine W_nil ?_
      refine N_then ?_
      refine G_ret ?_
      obtain rfl := Option.some.inj hm
      refine N_ret [.agg #[.slice p4250 r4248.1.length c4251, .slice p4255 r4248.2.1.length c4256, .slice p4260 r4248.2.2.length c4261], .bool true] (RVs_cons (RV_cell (g := true) (k := 3) (b := b3917) (off := 0) (cs := [.slice p4250 r4248.1.length c4251, .slice p4255 r4248.2.1.length c4256, .slice p4260 r4248.2.2.length c4261]) (e := 28) (fr := (0, 0)) (v := .agg #[.slice p4250 r4248.1.length c4251, .slice p4255 r4248.2.1.length c4256, .slice p4260 r4248.2.2.length c4261]) (M4268.blk 2 (b := b3917) (o := .cells ⟨[.slice p4250 r4248.1.length c4251, .slice p4255 r4248.2.1.length c4256, .slice p4260 r4248.2.2.length c4261]⟩ 28 (0, 0)) (by kernel_rfl)) (by kernel_rfl) (by kernel_rfl) (by kernel_rfl)) (RVs_cons (RV_tmp (by kernel_rfl)) RVs_nil)) ?_
      exact ⟨p4250, c4251, sg4252, p4255, c4256, sg4257, p4260, c4261, sg4262, rfl, ho4253, ho4258, ho4263, M4268.pick [4, 5, 6] (by kernel_rfl)⟩
theorem c_l_FnExactStoreWord (w : World) (x3491 : Copying) (p3493 : Option Addr) (c3494 : Nat) (h3495 : rdS encI w x3491.Memory p3493 c3494) (p3497 : Option Addr) (c3498 : Nat) (h3499 : rdS encI w x3491.Copy p3497 c3498) (p3501 : Option Addr) (c3502 : Nat) (h3503 : rdS encB w x3491.Dirty p3501 c3502) (x3504 : Store) {r : Bool} (hm : M.l_FnExactStoreWord x3491 x3504 = some r) :
    Calls Try.prog 7 #[.agg #[.slice p3493 x3491.Memory.length c3494, .slice p3497 x3491.Copy.length c3498, .slice p3501 x3491.Dirty.length c3502], .agg #[.int .i64 x3504.Word, .int .i64 x3504.Value]] w fun e w' => e = .returned (.bool r) ∧ Mem [] w w' [] := by
  unfold M.l_FnExactStoreWord at hm
  refine C_enter Try.func7 rfl (by kernel_rfl) ?_
  have M0 := Mem.refl [] w
  refine G_seq ?_
  refine G_region ?_
  refine W_new (fun b => .pointer (some ⟨b, 0, none⟩)) (.cells ⟨[.slice p3493 x3491.Memory.length c3494, .slice p3497 x3491.Copy.length c3498, .slice p3501 x3491.Dirty.length c3502]⟩ 25 (0, 0)) M0 rfl (by kernel_rfl) (by kernel_rfl) ?_
  intro b3506 w3507 M3508
  refine W_new (fun b => .pointer (some ⟨b, 0, none⟩)) (.cells ⟨[.int .i64 x3504.Word, .int .i64 x3504.Value]⟩ 44 (0, 0)) M3508 rfl (by kernel_rfl) (by kernel_rfl) ?_
  intro b3510 w3511 M3512
  refine W_run 1 [(2, .pointer (some ⟨b3506, 0, none⟩)), (3, .pointer (some ⟨b3510, 0, none⟩))] w3511 (by kernel_rfl) ?_
  refine W_nil ?_
  refine N_then ?_
  refine G_seq ?_
  refine G_region ?_
  refine W_run 1 [(2, .pointer (some ⟨b3506, 0, none⟩)), (3, .pointer (some ⟨b3510, 0, none⟩)), (5, .int .i64 1048576)] w3511 (by kernel_rfl) ?_
  refine W_nil ?_
  refine N_then ?_
  refine G_seq ?_
  refine G_region ?_
  refine W_val (.agg #[.slice p3493 x3491.Memory.length c3494, .slice p3497 x3491.Copy.length c3498, .slice p3501 x3491.Dirty.length c3502]) w3511 (by kernel_rfl) (E_load (e := 25) (fr := (0, 0)) _ _ true 3 b3506 0 [.slice p3493 x3491.Memory.length c3494, .slice p3497 x3491.Copy.length c3498, .slice p3501 x3491.Dirty.length c3502] (.agg #[.slice p3493 x3491.Memory.length c3494, .slice p3497 x3491.Copy.length c3498, .slice p3501 x3491.Dirty.length c3502]) rfl (by kernel_rfl) (by kernel_rfl) (by kernel_rfl) (M3512.blk 0 (b := b3506) (o := .cells ⟨[.slice p3493 x3491.Memory.length c3494, .slice p3497 x3491.Copy.length c3498, .slice p3501 x3491.Dirty.length c3502]⟩ 25 (0, 0)) (by kernel_rfl))) ?_
  refine W_run 1 [(2, .pointer (some ⟨b3506, 0, none⟩)), (3, .pointer (some ⟨b3510, 0, none⟩)), (5, .int .i64 1048576), (16, .agg #[.slice p3493 x3491.Memory.length c3494, .slice p3497 x3491.Copy.length c3498, .slice p3501 x3491.Dirty.length c3502]), (17, .int .i64 1048576)] w3511 (by kernel_rfl) ?_
  obtain ⟨r3513, hr3513, hm⟩ := gx_bind hm
  refine W_call 13 #[.agg #[.slice p3493 x3491.Memory.length c3494, .slice p3497 x3491.Copy.length c3498, .slice p3501 x3491.Dirty.length c3502], .int .i64 1048576] (by kernel_rfl) (by kernel_rfl) ?_
  refine (c_l_szCopying w3511 x3491 p3493 c3494 (h3495.mem0 M3512) p3497 c3498 (h3499.mem0 M3512) p3501 c3502 (h3503.mem0 M3512) 1048576 hr3513).mono ?_
  rintro e_ w3514 ⟨rfl, K3515⟩
  have M3516 := M3512.call0 K3515
  refine ⟨_, rfl, ?_⟩
  refine W_run 1 [(2, .pointer (some ⟨b3506, 0, none⟩)), (3, .pointer (some ⟨b3510, 0, none⟩)), (5, .int .i64 r3513)] w3514 (by kernel_rfl) ?_
  refine W_nil ?_
  refine N_then ?_
  refine G_seq ?_
  refine G_seq ?_
  refine G_region ?_
  refine W_run 2 [(2, .pointer (some ⟨b3506, 0, none⟩)), (3, .pointer (some ⟨b3510, 0, none⟩)), (20, .bool (decide (r3513 < 0)))] w3514 (by kernel_rfl) ?_
  refine W_nil ?_
  refine N_then ?_
  rcases gx_bif hm with ⟨hc3517, hm⟩ | ⟨hc3517, hm⟩
  · refine G_cond_t (b := (decide (r3513 < 0))) hc3517 (by kernel_rfl) ?_
    refine G_seq ?_
    refine G_region ?_
    refine W_run 1 [(4, .bool true)] w3514 (by kernel_rfl) ?_
    refine W_nil ?_
    refine N_then ?_
    refine G_ret ?_
    refine N_then_ret ?_
    obtain rfl := Option.some.inj hm
    refine N_ret [.bool true] (RVs_cons (RV_tmp (by kernel_rfl)) RVs_nil) ?_
    exact ⟨rfl, M3516.pick [] (by kernel_rfl)⟩
  · refine G_cond_f (b := (decide (r3513 < 0))) hc3517 (by kernel_rfl) ?_
    refine G_skip ?_
    refine N_then ?_
    refine G_seq ?_
    obtain ⟨r3520, hr3520, hm⟩ := gx_bind hm
    obtain ⟨r3555, hr3555, hm⟩ := gx_bind hm
    obtain ⟨r3779, hr3779, hm⟩ := gx_bind hm
    refine G_sub [(2, .pointer (some ⟨b3506, 0, none⟩)), (3, .pointer (some ⟨b3510, 0, none⟩)), (20, .bool (decide (r3513 < 0)))] (by kernel_rfl) ?_
    refine G_dagL 10 [[], [0], [], [2], [1, 3], [], [5], [5], [], [6, 8]] [[], [], [], [], [], [], [], [], [], [8]] [[], [], [], [], [1], [], [], [], [], []] [[], [], [], [], [], [4], [4], [4], [], [4]] [[], [], [], [], [], [4], [4], [], [], [4, 8]] [[], [], [], [], [], [], [], [], [], []] (fun _ => []) (fun i => ([fun f v s => v = (.agg #[.slice p3493 x3491.Memory.length c3494, .slice p3497 x3491.Copy.length c3498, .slice p3501 x3491.Dirty.length c3502] : Value) ∧ s = [], fun f v s => ∃ (p3522 : Option Addr) (c3523 : Nat) (sg3524 : Seg), ∃ (p3527 : Option Addr) (c3528 : Nat) (sg3529 : Seg), ∃ (p3532 : Option Addr) (c3533 : Nat) (sg3534 : Seg), v = (.agg #[.slice p3522 r3520.Memory.length c3523, .slice p3527 r3520.Copy.length c3528, .slice p3532 r3520.Dirty.length c3533] : Value) ∧ s = (sg3524 ++ (sg3529 ++ sg3534)) ∧ ownS encI r3520.Memory p3522 c3523 sg3524 ∧ ownS encI r3520.Copy p3527 c3528 sg3529 ∧ ownS encB r3520.Dirty p3532 c3533 sg3534, fun f v s => v = (.agg #[.int .i64 x3504.Word, .int .i64 x3504.Value] : Value) ∧ s = [], fun f v s => v = (.agg #[.int .i64 r3555.Word, .int .i64 r3555.Value] : Value) ∧ s = [], fun f v s => ∃ (p3781 : Option Addr) (c3782 : Nat) (sg3783 : Seg), ∃ (p3786 : Option Addr) (c3787 : Nat) (sg3788 : Seg), ∃ (p3791 : Option Addr) (c3792 : Nat) (sg3793 : Seg), v = (.tuple #[.agg #[.slice p3781 r3779.1.Memory.length c3782, .slice p3786 r3779.1.Copy.length c3787, .slice p3791 r3779.1.Dirty.length c3792], .bool r3779.2] : Value) ∧ s = (sg3783 ++ (sg3788 ++ sg3793)) ∧ ownS encI r3779.1.Memory p3781 c3782 sg3783 ∧ ownS encI r3779.1.Copy p3786 c3787 sg3788 ∧ ownS encB r3779.1.Dirty p3791 c3792 sg3793, fun f v s => v = (.tuple #[.agg #[(atPath (f 4) [0, 0]), (atPath (f 4) [0, 1]), (atPath (f 4) [0, 2])], .bool r3779.2] : Value) ∧ s = [], fun f v s => v = (.agg #[(atPath (f 4) [0, 0]), (atPath (f 4) [0, 1]), (atPath (f 4) [0, 2])] : Value) ∧ s = [], fun f v s => v = (.bool r3779.2 : Value) ∧ s = [], fun f v s => ∃ (b3799 : Nat), v = (.pointer (some ⟨b3799, 0, none⟩) : Value) ∧ s = [(b3799, .cells ⟨[.slice none 0 0, .slice none 0 0, .slice none 0 0]⟩ 28 (0, 0))], fun f v s => v = undef ∧ s = [((blkOf (f 8)), .cells ⟨[(atPath (f 4) [0, 0]), (atPath (f 4) [0, 1]), (atPath (f 4) [0, 2])]⟩ 28 (0, 0))]] : List ((Nat → Value) → Value → Seg → Prop)).getD i (fun _ _ _ => False)) (fun j f v => ∃ s, (fun i => ([fun f v s => v = (.agg #[.slice p3493 x3491.Memory.length c3494, .slice p3497 x3491.Copy.length c3498, .slice p3501 x3491.Dirty.length c3502] : Value) ∧ s = [], fun f v s => ∃ (p3522 : Option Addr) (c3523 : Nat) (sg3524 : Seg), ∃ (p3527 : Option Addr) (c3528 : Nat) (sg3529 : Seg), ∃ (p3532 : Option Addr) (c3533 : Nat) (sg3534 : Seg), v = (.agg #[.slice p3522 r3520.Memory.length c3523, .slice p3527 r3520.Copy.length c3528, .slice p3532 r3520.Dirty.length c3533] : Value) ∧ s = (sg3524 ++ (sg3529 ++ sg3534)) ∧ ownS encI r3520.Memory p3522 c3523 sg3524 ∧ ownS encI r3520.Copy p3527 c3528 sg3529 ∧ ownS encB r3520.Dirty p3532 c3533 sg3534, fun f v s => v = (.agg #[.int .i64 x3504.Word, .int .i64 x3504.Value] : Value) ∧ s = [], fun f v s => v = (.agg #[.int .i64 r3555.Word, .int .i64 r3555.Value] : Value) ∧ s = [], fun f v s => ∃ (p3781 : Option Addr) (c3782 : Nat) (sg3783 : Seg), ∃ (p3786 : Option Addr) (c3787 : Nat) (sg3788 : Seg), ∃ (p3791 : Option Addr) (c3792 : Nat) (sg3793 : Seg), v = (.tuple #[.agg #[.slice p3781 r3779.1.Memory.length c3782, .slice p3786 r3779.1.Copy.length c3787, .slice p3791 r3779.1.Dirty.length c3792], .bool r3779.2] : Value) ∧ s = (sg3783 ++ (sg3788 ++ sg3793)) ∧ ownS encI r3779.1.Memory p3781 c3782 sg3783 ∧ ownS encI r3779.1.Copy p3786 c3787 sg3788 ∧ ownS encB r3779.1.Dirty p3791 c3792 sg3793, fun f v s => v = (.tuple #[.agg #[(atPath (f 4) [0, 0]), (atPath (f 4) [0, 1]), (atPath (f 4) [0, 2])], .bool r3779.2] : Value) ∧ s = [], fun f v s => v = (.agg #[(atPath (f 4) [0, 0]), (atPath (f 4) [0, 1]), (atPath (f 4) [0, 2])] : Value) ∧ s = [], fun f v s => v = (.bool r3779.2 : Value) ∧ s = [], fun f v s => ∃ (b3799 : Nat), v = (.pointer (some ⟨b3799, 0, none⟩) : Value) ∧ s = [(b3799, .cells ⟨[.slice none 0 0, .slice none 0 0, .slice none 0 0]⟩ 28 (0, 0))], fun f v s => v = undef ∧ s = [((blkOf (f 8)), .cells ⟨[(atPath (f 4) [0, 0]), (atPath (f 4) [0, 1]), (atPath (f 4) [0, 2])]⟩ 28 (0, 0))]] : List ((Nat → Value) → Value → Seg → Prop)).getD i (fun _ _ _ => False)) j f v s) [8] [1, 4, 7, 9] [1, 4, 9] (fun _ _ _ s h => ⟨s, h⟩) (by kernel_rfl) (by kernel_rfl) (M3516.preNil 10) (by kernel_rfl) (by kernel_rfl) (by kernel_rfl) (by kernel_rfl) (allOb_cons ?_ (allOb_cons ?_ (allOb_cons ?_ (allOb_cons ?_ (allOb_cons ?_ (allOb_cons ?_ (allOb_cons ?_ (allOb_cons ?_ (allOb_cons ?_ (allOb_cons ?_ allOb_nil)))))))))) ?_
    · intro g3518 f3519
      intro R w3800 M3801
      refine W_val (.agg #[.slice p3493 x3491.Memory.length c3494, .slice p3497 x3491.Copy.length c3498, .slice p3501 x3491.Dirty.length c3502]) w3800 (by kernel_rfl) (E_load (e := 25) (fr := (0, 0)) _ _ true 3 b3506 0 [.slice p3493 x3491.Memory.length c3494, .slice p3497 x3491.Copy.length c3498, .slice p3501 x3491.Dirty.length c3502] (.agg #[.slice p3493 x3491.Memory.length c3494, .slice p3497 x3491.Copy.length c3498, .slice p3501 x3491.Dirty.length c3502]) rfl (by kernel_rfl) (by kernel_rfl) (by kernel_rfl) (M3801.blk 0 (b := b3506) (o := .cells ⟨[.slice p3493 x3491.Memory.length c3494, .slice p3497 x3491.Copy.length c3498, .slice p3501 x3491.Dirty.length c3502]⟩ 25 (0, 0)) (by kernel_rfl))) ?_
      exact W_nil (ob_end (.agg #[.slice p3493 x3491.Memory.length c3494, .slice p3497 x3491.Copy.length c3498, .slice p3501 x3491.Dirty.length c3502]) [] rfl (by kernel_rfl) ⟨by kernel_rfl, rfl⟩ M3801)
    · intro g3518 f3519
      intro v0_ hb0_
      obtain ⟨rfl, _⟩ := hb0_
      intro R w3804 M3805
      refine W_call 15 #[.agg #[.slice p3493 x3491.Memory.length c3494, .slice p3497 x3491.Copy.length c3498, .slice p3501 x3491.Dirty.length c3502]] (by kernel_rfl) (by kernel_rfl) ?_
      refine (c_l_toCopying w3804 x3491 p3493 c3494 (h3495.mem0 M3805) p3497 c3498 (h3499.mem0 M3805) p3501 c3502 (h3503.mem0 M3805) hr3520).mono ?_
      rintro e_ w3806 ⟨p3522, c3523, sg3524, p3527, c3528, sg3529, p3532, c3533, sg3534, rfl, ho3525, ho3530, ho3535, K3808⟩
      refine ⟨_, rfl, ?_⟩
      exact W_nil (ob_end (.agg #[.slice p3522 r3520.Memory.length c3523, .slice p3527 r3520.Copy.length c3528, .slice p3532 r3520.Dirty.length c3533]) (sg3524 ++ (sg3529 ++ sg3534)) rfl (by kernel_rfl) ⟨p3522, c3523, sg3524, p3527, c3528, sg3529, p3532, c3533, sg3534, rfl, rfl, ho3525, ho3530, ho3535⟩ (Mem.callMid M3805 (K3808.permF (by simp))))
    · intro g3518 f3519
      intro R w3809 M3810
      refine W_val (.agg #[.int .i64 x3504.Word, .int .i64 x3504.Value]) w3809 (by kernel_rfl) (E_load (e := 44) (fr := (0, 0)) _ _ true 2 b3510 0 [.int .i64 x3504.Word, .int .i64 x3504.Value] (.agg #[.int .i64 x3504.Word, .int .i64 x3504.Value]) rfl (by kernel_rfl) (by kernel_rfl) (by kernel_rfl) (M3810.blk 1 (b := b3510) (o := .cells ⟨[.int .i64 x3504.Word, .int .i64 x3504.Value]⟩ 44 (0, 0)) (by kernel_rfl))) ?_
      exact W_nil (ob_end (.agg #[.int .i64 x3504.Word, .int .i64 x3504.Value]) [] rfl (by kernel_rfl) ⟨by kernel_rfl, rfl⟩ M3810)
    · intro g3518 f3519
      intro v2_ hb2_
      obtain ⟨rfl, _⟩ := hb2_
      intro R w3813 M3814
      refine W_call 31 #[.agg #[.int .i64 x3504.Word, .int .i64 x3504.Value]] (by kernel_rfl) (by kernel_rfl) ?_
      refine (c_l_toStore w3813 x3504 hr3555).mono ?_
      rintro e_ w3815 ⟨rfl, K3817⟩
      refine ⟨_, rfl, ?_⟩
      exact W_nil (ob_end (.agg #[.int .i64 r3555.Word, .int .i64 r3555.Value]) [] rfl (by kernel_rfl) ⟨rfl, rfl⟩ (M3814.call0 K3817))
    · intro g3518 f3519
      intro v1_ hb1_
      obtain ⟨p3522, c3523, sg3524, p3527, c3528, sg3529, p3532, c3533, sg3534, rfl, hs1_, ho3525, ho3530, ho3535⟩ := hb1_
      intro v3_ hb3_
      obtain ⟨rfl, _⟩ := hb3_
      intro R w3818 M3819
      have M3820 : Mem [] w w3818 ([[(b3506, .cells ⟨[.slice p3493 x3491.Memory.length c3494, .slice p3497 x3491.Copy.length c3498, .slice p3501 x3491.Dirty.length c3502]⟩ 25 (0, 0))], [(b3510, .cells ⟨[.int .i64 x3504.Word, .int .i64 x3504.Value]⟩ 44 (0, 0))]] ++ ([[]] ++ ([(g3518 1)] ++ ([] ++ R)))) := M3819
      rw [hs1_] at M3820
      replace M3820 : Mem [] w w3818 ([[(b3506, .cells ⟨[.slice p3493 x3491.Memory.length c3494, .slice p3497 x3491.Copy.length c3498, .slice p3501 x3491.Dirty.length c3502]⟩ 25 (0, 0))], [(b3510, .cells ⟨[.int .i64 x3504.Word, .int .i64 x3504.Value]⟩ 44 (0, 0))]] ++ ([[]] ++ ([sg3524, sg3529, sg3534] ++ ([] ++ R)))) := M3820.permF (by simp)
      refine W_call 30 #[.agg #[.slice p3522 r3520.Memory.length c3523, .slice p3527 r3520.Copy.length c3528, .slice p3532 r3520.Dirty.length c3533], .agg #[.int .i64 r3555.Word, .int .i64 r3555.Value]] (by kernel_rfl) (by kernel_rfl) ?_
      refine (c_s_StoreWord w3818 r3520 p3522 c3523 (ho3525.rd M3820 3 (by kernel_rfl)) p3527 c3528 (ho3530.rd M3820 4 (by kernel_rfl)) p3532 c3533 (ho3535.rd M3820 5 (by kernel_rfl)) r3555 hr3779).mono ?_
      rintro e_ w3821 ⟨p3781, c3782, sg3783, p3786, c3787, sg3788, p3791, c3792, sg3793, rfl, ho3784, ho3789, ho3794, K3823⟩
      refine ⟨_, rfl, ?_⟩
      exact W_nil (ob_end (.tuple #[.agg #[.slice p3781 r3779.1.Memory.length c3782, .slice p3786 r3779.1.Copy.length c3787, .slice p3791 r3779.1.Dirty.length c3792], .bool r3779.2]) (sg3783 ++ (sg3788 ++ sg3793)) rfl (by kernel_rfl) ⟨p3781, c3782, sg3783, p3786, c3787, sg3788, p3791, c3792, sg3793, rfl, rfl, ho3784, ho3789, ho3794⟩ (Mem.callMid M3819 (K3823.permF (by simp))))
    · intro g3518 f3519
      intro v4_ hb4_
      obtain ⟨_, p3781, c3782, _, p3786, c3787, _, p3791, c3792, _, rfl, _⟩ := hb4_
      intro R w3824 M3825
      refine W_run 1 [(21, .tuple #[.agg #[.slice p3781 r3779.1.Memory.length c3782, .slice p3786 r3779.1.Copy.length c3787, .slice p3791 r3779.1.Dirty.length c3792], .bool r3779.2])] w3824 (by kernel_rfl) ?_
      exact W_nil (ob_end (.tuple #[.agg #[.slice p3781 r3779.1.Memory.length c3782, .slice p3786 r3779.1.Copy.length c3787, .slice p3791 r3779.1.Dirty.length c3792], .bool r3779.2]) [] rfl (by kernel_rfl) ⟨by kernel_rfl, rfl⟩ M3825)
    · intro g3518 f3519
      intro v4_ hb4_
      obtain ⟨_, p3781, c3782, _, p3786, c3787, _, p3791, c3792, _, rfl, _⟩ := hb4_
      intro v5_ hb5_
      obtain ⟨hv5_, _⟩ := hb5_
      obtain rfl : v5_ = (.tuple #[.agg #[.slice p3781 r3779.1.Memory.length c3782, .slice p3786 r3779.1.Copy.length c3787, .slice p3791 r3779.1.Dirty.length c3792], .bool r3779.2] : Value) := hv5_.trans (by kernel_rfl)
      intro R w3828 M3829
      refine W_run 1 [(27, .agg #[.slice p3781 r3779.1.Memory.length c3782, .slice p3786 r3779.1.Copy.length c3787, .slice p3791 r3779.1.Dirty.length c3792])] w3828 (by kernel_rfl) ?_
      exact W_nil (ob_end (.agg #[.slice p3781 r3779.1.Memory.length c3782, .slice p3786 r3779.1.Copy.length c3787, .slice p3791 r3779.1.Dirty.length c3792]) [] rfl (by kernel_rfl) ⟨by kernel_rfl, rfl⟩ M3829)
    · intro g3518 f3519
      intro v4_ hb4_
      obtain ⟨_, p3781, c3782, _, p3786, c3787, _, p3791, c3792, _, rfl, _⟩ := hb4_
      intro v5_ hb5_
      obtain ⟨hv5_, _⟩ := hb5_
      obtain rfl : v5_ = (.tuple #[.agg #[.slice p3781 r3779.1.Memory.length c3782, .slice p3786 r3779.1.Copy.length c3787, .slice p3791 r3779.1.Dirty.length c3792], .bool r3779.2] : Value) := hv5_.trans (by kernel_rfl)
      intro R w3832 M3833
      refine W_run 1 [(28, .bool r3779.2)] w3832 (by kernel_rfl) ?_
      exact W_nil (ob_end (.bool r3779.2) [] rfl (by kernel_rfl) ⟨by kernel_rfl, rfl⟩ M3833)
    · intro g3518 f3519
      intro R w3836 M3837
      refine W_new (fun b => .pointer (some ⟨b, 0, none⟩)) (.cells ⟨[.slice none 0 0, .slice none 0 0, .slice none 0 0]⟩ 28 (0, 0)) M3837 rfl (by kernel_rfl) (by kernel_rfl) ?_
      intro b3799 w3838 M3839
      exact W_nil (ob_end (.pointer (some ⟨b3799, 0, none⟩)) [(b3799, .cells ⟨[.slice none 0 0, .slice none 0 0, .slice none 0 0]⟩ 28 (0, 0))] rfl (by kernel_rfl) ⟨b3799, rfl, rfl⟩ (Mem.mid M3839))
    · intro g3518 f3519
      intro v4_ hb4_
      obtain ⟨_, p3781, c3782, _, p3786, c3787, _, p3791, c3792, _, rfl, _⟩ := hb4_
      intro v6_ hb6_
      obtain ⟨hv6_, _⟩ := hb6_
      obtain rfl : v6_ = (.agg #[.slice p3781 r3779.1.Memory.length c3782, .slice p3786 r3779.1.Copy.length c3787, .slice p3791 r3779.1.Dirty.length c3792] : Value) := hv6_.trans (by kernel_rfl)
      intro v8_ hb8_
      obtain ⟨b3799, rfl, hs8_⟩ := hb8_
      intro R w3840 M3841
      have M3842 : Mem [] w w3840 ([[(b3506, .cells ⟨[.slice p3493 x3491.Memory.length c3494, .slice p3497 x3491.Copy.length c3498, .slice p3501 x3491.Dirty.length c3502]⟩ 25 (0, 0))], [(b3510, .cells ⟨[.int .i64 x3504.Word, .int .i64 x3504.Value]⟩ 44 (0, 0))]] ++ ([[]] ++ ([(g3518 8)] ++ ([] ++ R)))) := M3841
      rw [hs8_] at M3842
      replace M3842 : Mem [] w w3840 ([[(b3506, .cells ⟨[.slice p3493 x3491.Memory.length c3494, .slice p3497 x3491.Copy.length c3498, .slice p3501 x3491.Dirty.length c3502]⟩ 25 (0, 0))], [(b3510, .cells ⟨[.int .i64 x3504.Word, .int .i64 x3504.Value]⟩ 44 (0, 0))]] ++ ([[]] ++ ([[(b3799, .cells ⟨[.slice none 0 0, .slice none 0 0, .slice none 0 0]⟩ 28 (0, 0))]] ++ ([] ++ R)))) := M3842.permF (by simp)
      refine W_store _ _ _ true 3 b3799 0 [.slice none 0 0, .slice none 0 0, .slice none 0 0] 28 (.agg #[.slice p3781 r3779.1.Memory.length c3782, .slice p3786 r3779.1.Copy.length c3787, .slice p3791 r3779.1.Dirty.length c3792]) 3 [.slice p3781 r3779.1.Memory.length c3782, .slice p3786 r3779.1.Copy.length c3787, .slice p3791 r3779.1.Dirty.length c3792] M3842 (by kernel_rfl) rfl (by kernel_rfl) (by kernel_rfl) (by kernel_rfl) (by kernel_rfl) (by kernel_rfl) (by kernel_rfl) (by kernel_rfl) (by kernel_rfl) ?_
      intro w3843 M3844
      exact W_nil (ob_none [(b3799, .cells ⟨[.slice p3781 r3779.1.Memory.length c3782, .slice p3786 r3779.1.Copy.length c3787, .slice p3791 r3779.1.Dirty.length c3792]⟩ 28 (0, 0))] rfl ⟨rfl, by kernel_rfl⟩ (Mem.takeOver M3844))
    · intro g3518 f3519
      intro v8_ hb8_
      obtain ⟨_, b3799, rfl, hs8_⟩ := hb8_
      intro v1_ hb1_
      obtain ⟨p3522, c3523, sg3524, p3527, c3528, sg3529, p3532, c3533, sg3534, rfl, hs1_, ho3525, ho3530, ho3535⟩ := hb1_
      intro v4_ hb4_
      obtain ⟨p3781, c3782, sg3783, p3786, c3787, sg3788, p3791, c3792, sg3793, rfl, hs4_, ho3784, ho3789, ho3794⟩ := hb4_
      intro v7_ hb7_
      obtain ⟨rfl, _⟩ := hb7_
      intro v9_ hb9_
      obtain ⟨rfl, hs9_⟩ := hb9_
      replace hs9_ := hs9_.trans (show _ = [(b3799, .cells ⟨[.slice p3781 r3779.1.Memory.length c3782, .slice p3786 r3779.1.Copy.length c3787, .slice p3791 r3779.1.Dirty.length c3792]⟩ 28 (0, 0))] by kernel_rfl)
      intro w3845 M3846
      have M3847 : Mem [] w w3845 [[(b3506, .cells ⟨[.slice p3493 x3491.Memory.length c3494, .slice p3497 x3491.Copy.length c3498, .slice p3501 x3491.Dirty.length c3502]⟩ 25 (0, 0))], [(b3510, .cells ⟨[.int .i64 x3504.Word, .int .i64 x3504.Value]⟩ 44 (0, 0))], (g3518 1), (g3518 4), (g3518 9)] := M3846
      rw [hs1_] at M3847
      rw [hs4_] at M3847
      rw [hs9_] at M3847
      replace M3847 : Mem [] w w3845 [[(b3506, .cells ⟨[.slice p3493 x3491.Memory.length c3494, .slice p3497 x3491.Copy.length c3498, .slice p3501 x3491.Dirty.length c3502]⟩ 25 (0, 0))], [(b3510, .cells ⟨[.int .i64 x3504.Word, .int .i64 x3504.Value]⟩ 44 (0, 0))], sg3524, sg3529, sg3534, sg3783, sg3788, sg3793, [(b3799, .cells ⟨[.slice p3781 r3779.1.Memory.length c3782, .slice p3786 r3779.1.Copy.length c3787, .slice p3791 r3779.1.Dirty.length c3792]⟩ 28 (0, 0))]] := M3847.permF (by simp)
      refine W_run 1 [(2, .pointer (some ⟨b3506, 0, none⟩)), (3, .pointer (some ⟨b3510, 0, none⟩)), (6, .pointer (some ⟨b3799, 0, none⟩)), (7, .bool r3779.2)] w3845 (by kernel_rfl) ?_
      refine W_nil ?_
      refine N_then ?_
      refine G_seq ?_
      refine G_region ?_
      refine W_val (.agg #[.slice p3493 x3491.Memory.length c3494, .slice p3497 x3491.Copy.length c3498, .slice p3501 x3491.Dirty.length c3502]) w3845 (by kernel_rfl) (E_load (e := 25) (fr := (0, 0)) _ _ true 3 b3506 0 [.slice p3493 x3491.Memory.length c3494, .slice p3497 x3491.Copy.length c3498, .slice p3501 x3491.Dirty.length c3502] (.agg #[.slice p3493 x3491.Memory.length c3494, .slice p3497 x3491.Copy.length c3498, .slice p3501 x3491.Dirty.length c3502]) rfl (by kernel_rfl) (by kernel_rfl) (by kernel_rfl) (M3847.blk 0 (b := b3506) (o := .cells ⟨[.slice p3493 x3491.Memory.length c3494, .slice p3497 x3491.Copy.length c3498, .slice p3501 x3491.Dirty.length c3502]⟩ 25 (0, 0)) (by kernel_rfl))) ?_
      obtain ⟨r3848, hr3848, hm⟩ := gx_bind hm
      refine W_call 15 #[.agg #[.slice p3493 x3491.Memory.length c3494, .slice p3497 x3491.Copy.length c3498, .slice p3501 x3491.Dirty.length c3502]] (by kernel_rfl) (by kernel_rfl) ?_
      refine (c_l_toCopying w3845 x3491 p3493 c3494 (h3495.mem0 M3847) p3497 c3498 (h3499.mem0 M3847) p3501 c3502 (h3503.mem0 M3847) hr3848).mono ?_
      rintro e_ w3864 ⟨p3850, c3851, sg3852, p3855, c3856, sg3857, p3860, c3861, sg3862, rfl, ho3853, ho3858, ho3863, K3865⟩
      have M3866 := M3847.call K3865
      refine ⟨_, rfl, ?_⟩
      refine W_new (fun b => .pointer (some ⟨b, 0, none⟩)) (.cells ⟨[.slice none 0 0, .slice none 0 0, .slice none 0 0]⟩ 28 (0, 0)) M3866 rfl (by kernel_rfl) (by kernel_rfl) ?_
      intro b3871 w3872 M3873
      refine W_store _ _ _ true 3 b3871 0 [.slice none 0 0, .slice none 0 0, .slice none 0 0] 28 (.agg #[.slice p3850 r3848.Memory.length c3851, .slice p3855 r3848.Copy.length c3856, .slice p3860 r3848.Dirty.length c3861]) 12 [.slice p3850 r3848.Memory.length c3851, .slice p3855 r3848.Copy.length c3856, .slice p3860 r3848.Dirty.length c3861] M3873 (by kernel_rfl) rfl (by kernel_rfl) (by kernel_rfl) (by kernel_rfl) (by kernel_rfl) (by kernel_rfl) (by kernel_rfl) (by kernel_rfl) (by kernel_rfl) ?_
      intro w3874 M3875
      refine W_nil ?_
      refine N_then ?_
      refine G_seq ?_
      obtain ⟨r3878, hr3878, hm⟩ := gx_bind hm
      obtain ⟨r4269, hr4269, hm⟩ := gx_bind hm
      refine G_sub [(2, .pointer (some ⟨b3506, 0, none⟩)), (3, .pointer (some ⟨b3510, 0, none⟩)), (6, .pointer (some ⟨b3799, 0, none⟩)), (7, .bool r3779.2), (8, .pointer (some ⟨b3871, 0, none⟩)), (29, .agg #[.slice p3493 x3491.Memory.length c3494, .slice p3497 x3491.Copy.length c3498, .slice p3501 x3491.Dirty.length c3502]), (30, .agg #[.slice p3850 r3848.Memory.length c3851, .slice p3855 r3848.Copy.length c3856, .slice p3860 r3848.Dirty.length c3861])] (by kernel_rfl) ?_
      refine G_dagL 9 [[], [], [1], [0, 2], [], [4], [4], [], [5, 7]] [[], [], [], [], [], [], [], [], [7]] [[], [], [], [], [], [], [], [], []] [[], [], [], [], [3], [3], [3], [], [3]] [[], [], [], [], [3], [3], [], [], [3, 7]] [[], [], [], [], [], [], [], [], []] (fun _ => []) (fun i => ([fun f v s => v = (.agg #[.slice p3850 r3848.Memory.length c3851, .slice p3855 r3848.Copy.length c3856, .slice p3860 r3848.Dirty.length c3861] : Value) ∧ s = [], fun f v s => v = (.agg #[.int .i64 x3504.Word, .int .i64 x3504.Value] : Value) ∧ s = [], fun f v s => v = (.agg #[.int .i64 r3878.Word, .int .i64 r3878.Value] : Value) ∧ s = [], fun f v s => ∃ (p4271 : Option Addr) (c4272 : Nat) (sg4273 : Seg), ∃ (p4276 : Option Addr) (c4277 : Nat) (sg4278 : Seg), ∃ (p4281 : Option Addr) (c4282 : Nat) (sg4283 : Seg), v = (.tuple #[.agg #[.slice p4271 r4269.1.Memory.length c4272, .slice p4276 r4269.1.Copy.length c4277, .slice p4281 r4269.1.Dirty.length c4282], .bool r4269.2] : Value) ∧ s = (sg4273 ++ (sg4278 ++ sg4283)) ∧ ownS encI r4269.1.Memory p4271 c4272 sg4273 ∧ ownS encI r4269.1.Copy p4276 c4277 sg4278 ∧ ownS encB r4269.1.Dirty p4281 c4282 sg4283, fun f v s => v = (.tuple #[.agg #[(atPath (f 3) [0, 0]), (atPath (f 3) [0, 1]), (atPath (f 3) [0, 2])], .bool r4269.2] : Value) ∧ s = [], fun f v s => v = (.agg #[(atPath (f 3) [0, 0]), (atPath (f 3) [0, 1]), (atPath (f 3) [0, 2])] : Value) ∧ s = [], fun f v s => v = (.bool r4269.2 : Value) ∧ s = [], fun f v s => ∃ (b4289 : Nat), v = (.pointer (some ⟨b4289, 0, none⟩) : Value) ∧ s = [(b4289, .cells ⟨[.slice none 0 0, .slice none 0 0, .slice none 0 0]⟩ 28 (0, 0))], fun f v s => v = undef ∧ s = [((blkOf (f 7)), .cells ⟨[(atPath (f 3) [0, 0]), (atPath (f 3) [0, 1]), (atPath (f 3) [0, 2])]⟩ 28 (0, 0))]] : List ((Nat → Value) → Value → Seg → Prop)).getD i (fun _ _ _ => False)) (fun j f v => ∃ s, (fun i => ([fun f v s => v = (.agg #[.slice p3850 r3848.Memory.length c3851, .slice p3855 r3848.Copy.length c3856, .slice p3860 r3848.Dirty.length c3861] : Value) ∧ s = [], fun f v s => v = (.agg #[.int .i64 x3504.Word, .int .i64 x3504.Value] : Value) ∧ s = [], fun f v s => v = (.agg #[.int .i64 r3878.Word, .int .i64 r3878.Value] : Value) ∧ s = [], fun f v s => ∃ (p4271 : Option Addr) (c4272 : Nat) (sg4273 : Seg), ∃ (p4276 : Option Addr) (c4277 : Nat) (sg4278 : Seg), ∃ (p4281 : Option Addr) (c4282 : Nat) (sg4283 : Seg), v = (.tuple #[.agg #[.slice p4271 r4269.1.Memory.length c4272, .slice p4276 r4269.1.Copy.length c4277, .slice p4281 r4269.1.Dirty.length c4282], .bool r4269.2] : Value) ∧ s = (sg4273 ++ (sg4278 ++ sg4283)) ∧ ownS encI r4269.1.Memory p4271 c4272 sg4273 ∧ ownS encI r4269.1.Copy p4276 c4277 sg4278 ∧ ownS encB r4269.1.Dirty p4281 c4282 sg4283, fun f v s => v = (.tuple #[.agg #[(atPath (f 3) [0, 0]), (atPath (f 3) [0, 1]), (atPath (f 3) [0, 2])], .bool r4269.2] : Value) ∧ s = [], fun f v s => v = (.agg #[(atPath (f 3) [0, 0]), (atPath (f 3) [0, 1]), (atPath (f 3) [0, 2])] : Value) ∧ s = [], fun f v s => v = (.bool r4269.2 : Value) ∧ s = [], fun f v s => ∃ (b4289 : Nat), v = (.pointer (some ⟨b4289, 0, none⟩) : Value) ∧ s = [(b4289, .cells ⟨[.slice none 0 0, .slice none 0 0, .slice none 0 0]⟩ 28 (0, 0))], fun f v s => v = undef ∧ s = [((blkOf (f 7)), .cells ⟨[(atPath (f 3) [0, 0]), (atPath (f 3) [0, 1]), (atPath (f 3) [0, 2])]⟩ 28 (0, 0))]] : List ((Nat → Value) → Value → Seg → Prop)).getD i (fun _ _ _ => False)) j f v s) [7] [3, 6, 8] [3, 8] (fun _ _ _ s h => ⟨s, h⟩) (by kernel_rfl) (by kernel_rfl) (M3875.preNil 9) (by kernel_rfl) (by kernel_rfl) (by kernel_rfl) (by kernel_rfl) (allOb_cons ?_ (allOb_cons ?_ (allOb_cons ?_ (allOb_cons ?_ (allOb_cons ?_ (allOb_cons ?_ (allOb_cons ?_ (allOb_cons ?_ (allOb_cons ?_ allOb_nil))))))))) ?_
      · intro g3876 f3877
        intro R w4290 M4291
        refine W_val (.agg #[.slice p3850 r3848.Memory.length c3851, .slice p3855 r3848.Copy.length c3856, .slice p3860 r3848.Dirty.length c3861]) w4290 (by kernel_rfl) (E_load (e := 28) (fr := (0, 0)) _ _ true 3 b3871 0 [.slice p3850 r3848.Memory.length c3851, .slice p3855 r3848.Copy.length c3856, .slice p3860 r3848.Dirty.length c3861] (.agg #[.slice p3850 r3848.Memory.length c3851, .slice p3855 r3848.Copy.length c3856, .slice p3860 r3848.Dirty.length c3861]) rfl (by kernel_rfl) (by kernel_rfl) (by kernel_rfl) (M4291.blk 12 (b := b3871) (o := .cells ⟨[.slice p3850 r3848.Memory.length c3851, .slice p3855 r3848.Copy.length c3856, .slice p3860 r3848.Dirty.length c3861]⟩ 28 (0, 0)) (by kernel_rfl))) ?_
        exact W_nil (ob_end (.agg #[.slice p3850 r3848.Memory.length c3851, .slice p3855 r3848.Copy.length c3856, .slice p3860 r3848.Dirty.length c3861]) [] rfl (by kernel_rfl) ⟨by kernel_rfl, rfl⟩ M4291)
      · intro g3876 f3877
        intro R w4294 M4295
        refine W_val (.agg #[.int .i64 x3504.Word, .int .i64 x3504.Value]) w4294 (by kernel_rfl) (E_load (e := 44) (fr := (0, 0)) _ _ true 2 b3510 0 [.int .i64 x3504.Word, .int .i64 x3504.Value] (.agg #[.int .i64 x3504.Word, .int .i64 x3504.Value]) rfl (by kernel_rfl) (by kernel_rfl) (by kernel_rfl) (M4295.blk 1 (b := b3510) (o := .cells ⟨[.int .i64 x3504.Word, .int .i64 x3504.Value]⟩ 44 (0, 0)) (by kernel_rfl))) ?_
        exact W_nil (ob_end (.agg #[.int .i64 x3504.Word, .int .i64 x3504.Value]) [] rfl (by kernel_rfl) ⟨by kernel_rfl, rfl⟩ M4295)
      · intro g3876 f3877
        intro v1_ hb1_
        obtain ⟨rfl, _⟩ := hb1_
        intro R w4298 M4299
        refine W_call 31 #[.agg #[.int .i64 x3504.Word, .int .i64 x3504.Value]] (by kernel_rfl) (by kernel_rfl) ?_
        refine (c_l_toStore w4298 x3504 hr3878).mono ?_
        rintro e_ w4300 ⟨rfl, K4302⟩
        refine ⟨_, rfl, ?_⟩
        exact W_nil (ob_end (.agg #[.int .i64 r3878.Word, .int .i64 r3878.Value]) [] rfl (by kernel_rfl) ⟨rfl, rfl⟩ (M4299.call0 K4302))
      · intro g3876 f3877
        intro v0_ hb0_
        obtain ⟨rfl, _⟩ := hb0_
        intro v2_ hb2_
        obtain ⟨rfl, _⟩ := hb2_
        intro R w4303 M4304
        refine W_call 32 #[.agg #[.slice p3850 r3848.Memory.length c3851, .slice p3855 r3848.Copy.length c3856, .slice p3860 r3848.Dirty.length c3861], .agg #[.int .i64 r3878.Word, .int .i64 r3878.Value]] (by kernel_rfl) (by kernel_rfl) ?_
        refine (c_i_StoreWord w4303 r3848 p3850 c3851 (ho3853.rd M4304 9 (by kernel_rfl)) p3855 c3856 (ho3858.rd M4304 10 (by kernel_rfl)) p3860 c3861 (ho3863.rd M4304 11 (by kernel_rfl)) r3878 hr4269).mono ?_
        rintro e_ w4305 ⟨p4271, c4272, sg4273, p4276, c4277, sg4278, p4281, c4282, sg4283, rfl, ho4274, ho4279, ho4284, K4307⟩
        refine ⟨_, rfl, ?_⟩
        exact W_nil (ob_end (.tuple #[.agg #[.slice p4271 r4269.1.Memory.length c4272, .slice p4276 r4269.1.Copy.length c4277, .slice p4281 r4269.1.Dirty.length c4282], .bool r4269.2]) (sg4273 ++ (sg4278 ++ sg4283)) rfl (by kernel_rfl) ⟨p4271, c4272, sg4273, p4276, c4277, sg4278, p4281, c4282, sg4283, rfl, rfl, ho4274, ho4279, ho4284⟩ (Mem.callMid M4304 (K4307.permF (by simp))))
      · intro g3876 f3877
        intro v3_ hb3_
        obtain ⟨_, p4271, c4272, _, p4276, c4277, _, p4281, c4282, _, rfl, _⟩ := hb3_
        intro R w4308 M4309
        refine W_run 1 [(31, .tuple #[.agg #[.slice p4271 r4269.1.Memory.length c4272, .slice p4276 r4269.1.Copy.length c4277, .slice p4281 r4269.1.Dirty.length c4282], .bool r4269.2])] w4308 (by kernel_rfl) ?_
        exact W_nil (ob_end (.tuple #[.agg #[.slice p4271 r4269.1.Memory.length c4272, .slice p4276 r4269.1.Copy.length c4277, .slice p4281 r4269.1.Dirty.length c4282], .bool r4269.2]) [] rfl (by kernel_rfl) ⟨by kernel_rfl, rfl⟩ M4309)
      · intro g3876 f3877
        intro v3_ hb3_
        obtain ⟨_, p4271, c4272, _, p4276, c4277, _, p4281, c4282, _, rfl, _⟩ := hb3_
        intro v4_ hb4_
        obtain ⟨hv4_, _⟩ := hb4_
        obtain rfl : v4_ = (.tuple #[.agg #[.slice p4271 r4269.1.Memory.length c4272, .slice p4276 r4269.1.Copy.length c4277, .slice p4281 r4269.1.Dirty.length c4282], .bool r4269.2] : Value) := hv4_.trans (by kernel_rfl)
        intro R w4312 M4313
        refine W_run 1 [(36, .agg #[.slice p4271 r4269.1.Memory.length c4272, .slice p4276 r4269.1.Copy.length c4277, .slice p4281 r4269.1.Dirty.length c4282])] w4312 (by kernel_rfl) ?_
        exact W_nil (ob_end (.agg #[.slice p4271 r4269.1.Memory.length c4272, .slice p4276 r4269.1.Copy.length c4277, .slice p4281 r4269.1.Dirty.length c4282]) [] rfl (by kernel_rfl) ⟨by kernel_rfl, rfl⟩ M4313)
      · intro g3876 f3877
        intro v3_ hb3_
        obtain ⟨_, p4271, c4272, _, p4276, c4277, _, p4281, c4282, _, rfl, _⟩ := hb3_
        intro v4_ hb4_
        obtain ⟨hv4_, _⟩ := hb4_
        obtain rfl : v4_ = (.tuple #[.agg #[.slice p4271 r4269.1.Memory.length c4272, .slice p4276 r4269.1.Copy.length c4277, .slice p4281 r4269.1.Dirty.length c4282], .bool r4269.2] : Value) := hv4_.trans (by kernel_rfl)
        intro R w4316 M4317
        refine W_run 1 [(37, .bool r4269.2)] w4316 (by kernel_rfl) ?_
        exact W_nil (ob_end (.bool r4269.2) [] rfl (by kernel_rfl) ⟨by kernel_rfl, rfl⟩ M4317)
      · intro g3876 f3877
        intro R w4320 M4321
        refine W_new (fun b => .pointer (some ⟨b, 0, none⟩)) (.cells ⟨[.slice none 0 0, .slice none 0 0, .slice none 0 0]⟩ 28 (0, 0)) M4321 rfl (by kernel_rfl) (by kernel_rfl) ?_
        intro b4289 w4322 M4323
        exact W_nil (ob_end (.pointer (some ⟨b4289, 0, none⟩)) [(b4289, .cells ⟨[.slice none 0 0, .slice none 0 0, .slice none 0 0]⟩ 28 (0, 0))] rfl (by kernel_rfl) ⟨b4289, rfl, rfl⟩ (Mem.mid M4323))
      · intro g3876 f3877
        intro v3_ hb3_
        obtain ⟨_, p4271, c4272, _, p4276, c4277, _, p4281, c4282, _, rfl, _⟩ := hb3_
        intro v5_ hb5_
        obtain ⟨hv5_, _⟩ := hb5_
        obtain rfl : v5_ = (.agg #[.slice p4271 r4269.1.Memory.length c4272, .slice p4276 r4269.1.Copy.length c4277, .slice p4281 r4269.1.Dirty.length c4282] : Value) := hv5_.trans (by kernel_rfl)
        intro v7_ hb7_
        obtain ⟨b4289, rfl, hs7_⟩ := hb7_
        intro R w4324 M4325
        have M4326 : Mem [] w w4324 ([[(b3506, .cells ⟨[.slice p3493 x3491.Memory.length c3494, .slice p3497 x3491.Copy.length c3498, .slice p3501 x3491.Dirty.length c3502]⟩ 25 (0, 0))], [(b3510, .cells ⟨[.int .i64 x3504.Word, .int .i64 x3504.Value]⟩ 44 (0, 0))], sg3524, sg3529, sg3534, sg3783, sg3788, sg3793, [(b3799, .cells ⟨[.slice p3781 r3779.1.Memory.length c3782, .slice p3786 r3779.1.Copy.length c3787, .slice p3791 r3779.1.Dirty.length c3792]⟩ 28 (0, 0))], sg3852, sg3857, sg3862, [(b3871, .cells ⟨[.slice p3850 r3848.Memory.length c3851, .slice p3855 r3848.Copy.length c3856, .slice p3860 r3848.Dirty.length c3861]⟩ 28 (0, 0))]] ++ ([[]] ++ ([(g3876 7)] ++ ([] ++ R)))) := M4325
        rw [hs7_] at M4326
        replace M4326 : Mem [] w w4324 ([[(b3506, .cells ⟨[.slice p3493 x3491.Memory.length c3494, .slice p3497 x3491.Copy.length c3498, .slice p3501 x3491.Dirty.length c3502]⟩ 25 (0, 0))], [(b3510, .cells ⟨[.int .i64 x3504.Word, .int .i64 x3504.Value]⟩ 44 (0, 0))], sg3524, sg3529, sg3534, sg3783, sg3788, sg3793, [(b3799, .cells ⟨[.slice p3781 r3779.1.Memory.length c3782, .slice p3786 r3779.1.Copy.length c3787, .slice p3791 r3779.1.Dirty.length c3792]⟩ 28 (0, 0))], sg3852, sg3857, sg3862, [(b3871, .cells ⟨[.slice p3850 r3848.Memory.length c3851, .slice p3855 r3848.Copy.length c3856, .slice p3860 r3848.Dirty.length c3861]⟩ 28 (0, 0))]] ++ ([[]] ++ ([[(b4289, .cells ⟨[.slice none 0 0, .slice none 0 0, .slice none 0 0]⟩ 28 (0, 0))]] ++ ([] ++ R)))) := M4326.permF (by simp)
        refine W_store _ _ _ true 3 b4289 0 [.slice none 0 0, .slice none 0 0, .slice none 0 0] 28 (.agg #[.slice p4271 r4269.1.Memory.length c4272, .slice p4276 r4269.1.Copy.length c4277, .slice p4281 r4269.1.Dirty.length c4282]) 14 [.slice p4271 r4269.1.Memory.length c4272, .slice p4276 r4269.1.Copy.length c4277, .slice p4281 r4269.1.Dirty.length c4282] M4326 (by kernel_rfl) rfl (by kernel_rfl) (by kernel_rfl) (by kernel_rfl) (by kernel_rfl) (by kernel_rfl) (by kernel_rfl) (by kernel_rfl) (by kernel_rfl) ?_
        intro w4327 M4328
        exact W_nil (ob_none [(b4289, .cells ⟨[.slice p4271 r4269.1.Memory.length c4272, .slice p4276 r4269.1.Copy.length c4277, .slice p4281 r4269.1.Dirty.length c4282]⟩ 28 (0, 0))] rfl ⟨rfl, by kernel_rfl⟩ (Mem.takeOver M4328))
      · intro g3876 f3877
        intro v7_ hb7_
        obtain ⟨_, b4289, rfl, hs7_⟩ := hb7_
        intro v3_ hb3_
        obtain ⟨p4271, c4272, sg4273, p4276, c4277, sg4278, p4281, c4282, sg4283, rfl, hs3_, ho4274, ho4279, ho4284⟩ := hb3_
        intro v6_ hb6_
        obtain ⟨rfl, _⟩ := hb6_
        intro v8_ hb8_
        obtain ⟨rfl, hs8_⟩ := hb8_
        replace hs8_ := hs8_.trans (show _ = [(b4289, .cells ⟨[.slice p4271 r4269.1.Memory.length c4272, .slice p4276 r4269.1.Copy.length c4277, .slice p4281 r4269.1.Dirty.length c4282]⟩ 28 (0, 0))] by kernel_rfl)
        intro w4329 M4330
        have M4331 : Mem [] w w4329 [[(b3506, .cells ⟨[.slice p3493 x3491.Memory.length c3494, .slice p3497 x3491.Copy.length c3498, .slice p3501 x3491.Dirty.length c3502]⟩ 25 (0, 0))], [(b3510, .cells ⟨[.int .i64 x3504.Word, .int .i64 x3504.Value]⟩ 44 (0, 0))], sg3524, sg3529, sg3534, sg3783, sg3788, sg3793, [(b3799, .cells ⟨[.slice p3781 r3779.1.Memory.length c3782, .slice p3786 r3779.1.Copy.length c3787, .slice p3791 r3779.1.Dirty.length c3792]⟩ 28 (0, 0))], sg3852, sg3857, sg3862, [(b3871, .cells ⟨[.slice p3850 r3848.Memory.length c3851, .slice p3855 r3848.Copy.length c3856, .slice p3860 r3848.Dirty.length c3861]⟩ 28 (0, 0))], (g3876 3), (g3876 8)] := M4330
        rw [hs3_] at M4331
        rw [hs8_] at M4331
        replace M4331 : Mem [] w w4329 [[(b3506, .cells ⟨[.slice p3493 x3491.Memory.length c3494, .slice p3497 x3491.Copy.length c3498, .slice p3501 x3491.Dirty.length c3502]⟩ 25 (0, 0))], [(b3510, .cells ⟨[.int .i64 x3504.Word, .int .i64 x3504.Value]⟩ 44 (0, 0))], sg3524, sg3529, sg3534, sg3783, sg3788, sg3793, [(b3799, .cells ⟨[.slice p3781 r3779.1.Memory.length c3782, .slice p3786 r3779.1.Copy.length c3787, .slice p3791 r3779.1.Dirty.length c3792]⟩ 28 (0, 0))], sg3852, sg3857, sg3862, [(b3871, .cells ⟨[.slice p3850 r3848.Memory.length c3851, .slice p3855 r3848.Copy.length c3856, .slice p3860 r3848.Dirty.length c3861]⟩ 28 (0, 0))], sg4273, sg4278, sg4283, [(b4289, .cells ⟨[.slice p4271 r4269.1.Memory.length c4272, .slice p4276 r4269.1.Copy.length c4277, .slice p4281 r4269.1.Dirty.length c4282]⟩ 28 (0, 0))]] := M4331.permF (by simp)
        refine W_run 1 [(2, .pointer (some ⟨b3506, 0, none⟩)), (3, .pointer (some ⟨b3510, 0, none⟩)), (6, .pointer (some ⟨b3799, 0, none⟩)), (7, .bool r3779.2), (8, .pointer (some ⟨b3871, 0, none⟩)), (9, .pointer (some ⟨b4289, 0, none⟩)), (10, .bool r4269.2)] w4329 (by kernel_rfl) ?_
        refine W_nil ?_
        refine N_then ?_
        refine G_seq ?_
        refine G_seq ?_
        obtain ⟨o4337, ho4338, hm4339⟩ := gx_bind hm
        refine G_meet (fun a w' => Mem [] w w' [[(b3506, .cells ⟨[.slice p3493 x3491.Memory.length c3494, .slice p3497 x3491.Copy.length c3498, .slice p3501 x3491.Dirty.length c3502]⟩ 25 (0, 0))], [(b3510, .cells ⟨[.int .i64 x3504.Word, .int .i64 x3504.Value]⟩ 44 (0, 0))], sg3783, sg3788, sg3793, [(b3799, .cells ⟨[.slice p3781 r3779.1.Memory.length c3782, .slice p3786 r3779.1.Copy.length c3787, .slice p3791 r3779.1.Dirty.length c3792]⟩ 28 (0, 0))], sg3852, sg3857, sg3862, [(b3871, .cells ⟨[.slice p3850 r3848.Memory.length c3851, .slice p3855 r3848.Copy.length c3856, .slice p3860 r3848.Dirty.length c3861]⟩ 28 (0, 0))], sg4273, sg4278, sg4283, [(b4289, .cells ⟨[.slice p4271 r4269.1.Memory.length c4272, .slice p4276 r4269.1.Copy.length c4277, .slice p4281 r4269.1.Dirty.length c4282]⟩ 28 (0, 0))]] ∧ Sat Try.f7.ntmps [(2, .pointer (some ⟨b3506, 0, none⟩)), (3, .pointer (some ⟨b3510, 0, none⟩)), (6, .pointer (some ⟨b3799, 0, none⟩)), (7, .bool r3779.2), (8, .pointer (some ⟨b3871, 0, none⟩)), (9, .pointer (some ⟨b4289, 0, none⟩)), (10, .bool r4269.2), (46, .bool o4337)] a) ?_ ?_
        · have hm := ho4338
          refine G_region ?_
          refine W_val (.agg #[.slice p4271 r4269.1.Memory.length c4272, .slice p4276 r4269.1.Copy.length c4277, .slice p4281 r4269.1.Dirty.length c4282]) w4329 (by kernel_rfl) (E_load (e := 28) (fr := (0, 0)) _ _ true 3 b4289 0 [.slice p4271 r4269.1.Memory.length c4272, .slice p4276 r4269.1.Copy.length c4277, .slice p4281 r4269.1.Dirty.length c4282] (.agg #[.slice p4271 r4269.1.Memory.length c4272, .slice p4276 r4269.1.Copy.length c4277, .slice p4281 r4269.1.Dirty.length c4282]) rfl (by kernel_rfl) (by kernel_rfl) (by kernel_rfl) (M4331.blk 16 (b := b4289) (o := .cells ⟨[.slice p4271 r4269.1.Memory.length c4272, .slice p4276 r4269.1.Copy.length c4277, .slice p4281 r4269.1.Dirty.length c4282]⟩ 28 (0, 0)) (by kernel_rfl))) ?_
          refine W_val (.agg #[.slice p3781 r3779.1.Memory.length c3782, .slice p3786 r3779.1.Copy.length c3787, .slice p3791 r3779.1.Dirty.length c3792]) w4329 (by kernel_rfl) (E_load (e := 28) (fr := (0, 0)) _ _ true 3 b3799 0 [.slice p3781 r3779.1.Memory.length c3782, .slice p3786 r3779.1.Copy.length c3787, .slice p3791 r3779.1.Dirty.length c3792] (.agg #[.slice p3781 r3779.1.Memory.length c3782, .slice p3786 r3779.1.Copy.length c3787, .slice p3791 r3779.1.Dirty.length c3792]) rfl (by kernel_rfl) (by kernel_rfl) (by kernel_rfl) (M4331.blk 8 (b := b3799) (o := .cells ⟨[.slice p3781 r3779.1.Memory.length c3782, .slice p3786 r3779.1.Copy.length c3787, .slice p3791 r3779.1.Dirty.length c3792]⟩ 28 (0, 0)) (by kernel_rfl))) ?_
          obtain ⟨r4340, hr4340, hm⟩ := gx_bind hm
          refine W_call 17 #[.agg #[.slice p4271 r4269.1.Memory.length c4272, .slice p4276 r4269.1.Copy.length c4277, .slice p4281 r4269.1.Dirty.length c4282], .agg #[.slice p3781 r3779.1.Memory.length c3782, .slice p3786 r3779.1.Copy.length c3787, .slice p3791 r3779.1.Dirty.length c3792]] (by kernel_rfl) (by kernel_rfl) ?_
          refine (c_l_eqCopying w4329 r4269.1 p4271 c4272 (ho4274.rd M4331 13 (by kernel_rfl)) p4276 c4277 (ho4279.rd M4331 14 (by kernel_rfl)) p4281 c4282 (ho4284.rd M4331 15 (by kernel_rfl)) r3779.1 p3781 c3782 (ho3784.rd M4331 5 (by kernel_rfl)) p3786 c3787 (ho3789.rd M4331 6 (by kernel_rfl)) p3791 c3792 (ho3794.rd M4331 7 (by kernel_rfl)) hr4340).mono ?_
          rintro e_ w4341 ⟨rfl, K4342⟩
          have M4343 := M4331.call0 K4342
          refine ⟨_, rfl, ?_⟩
          refine W_run 2 [(2, .pointer (some ⟨b3506, 0, none⟩)), (3, .pointer (some ⟨b3510, 0, none⟩)), (6, .pointer (some ⟨b3799, 0, none⟩)), (7, .bool r3779.2), (8, .pointer (some ⟨b3871, 0, none⟩)), (9, .pointer (some ⟨b4289, 0, none⟩)), (10, .bool r4269.2), (42, .bool (!r4340))] w4341 (by kernel_rfl) ?_
          rcases gx_bif hm with ⟨hc4344, hm⟩ | ⟨hc4344, hm⟩
          · refine W_known 42 true (by kernel_rfl) hc4344 ?_
            refine W_run 4 [(2, .pointer (some ⟨b3506, 0, none⟩)), (3, .pointer (some ⟨b3510, 0, none⟩)), (6, .pointer (some ⟨b3799, 0, none⟩)), (7, .bool r3779.2), (8, .pointer (some ⟨b3871, 0, none⟩)), (9, .pointer (some ⟨b4289, 0, none⟩)), (10, .bool r4269.2), (46, .bool true)] w4341 (by kernel_rfl) ?_
            refine W_nil ?_
            obtain rfl := Option.some.inj hm
            exact N_meet fun a ha => ⟨M4343.pick [0, 1, 5, 6, 7, 8, 9, 10, 11, 12, 13, 14, 15, 16] (by kernel_rfl), ha.sub (by kernel_rfl)⟩
          · refine W_known 42 false (by kernel_rfl) hc4344 ?_
            refine W_run 4 [(2, .pointer (some ⟨b3506, 0, none⟩)), (3, .pointer (some ⟨b3510, 0, none⟩)), (6, .pointer (some ⟨b3799, 0, none⟩)), (7, .bool r3779.2), (8, .pointer (some ⟨b3871, 0, none⟩)), (9, .pointer (some ⟨b4289, 0, none⟩)), (10, .bool r4269.2), (46, .bool (!(r4269.2 == r3779.2)))] w4341 (by kernel_rfl) ?_
            refine W_nil ?_
            obtain rfl := Option.some.inj hm
            exact N_meet fun a ha => ⟨M4343.pick [0, 1, 5, 6, 7, 8, 9, 10, 11, 12, 13, 14, 15, 16] (by kernel_rfl), ha.sub (by kernel_rfl)⟩
        · intro a4347 w4345 ⟨M4346, hS4348⟩
          refine N_use hS4348 ?_
          have hm := hm4339
          refine N_then ?_
          rcases gx_bif hm with ⟨hc4349, hm⟩ | ⟨hc4349, hm⟩
          · refine G_cond_t (b := o4337) hc4349 (by kernel_rfl) ?_
            refine G_seq ?_
            refine G_region ?_
            refine W_run 1 [(4, .bool false)] w4345 (by kernel_rfl) ?_
            refine W_nil ?_
            refine N_then ?_
            refine G_ret ?_
            refine N_then_ret ?_
            obtain rfl := Option.some.inj hm
            refine N_ret [.bool false] (RVs_cons (RV_tmp (by kernel_rfl)) RVs_nil) ?_
            exact ⟨rfl, M4346.pick [] (by kernel_rfl)⟩
          · refine G_cond_f (b := o4337) hc4349 (by kernel_rfl) ?_
            refine G_skip ?_
            refine N_then ?_
            refine G_seq ?_
            refine G_seq ?_
            obtain ⟨r4352, hr4352, hm⟩ := gx_bind hm
            refine G_sub [(2, .pointer (some ⟨b3506, 0, none⟩)), (3, .pointer (some ⟨b3510, 0, none⟩)), (6, .pointer (some ⟨b3799, 0, none⟩)), (7, .bool r3779.2), (8, .pointer (some ⟨b3871, 0, none⟩)), (9, .pointer (some ⟨b4289, 0, none⟩)), (10, .bool r4269.2), (46, .bool o4337)] (by kernel_rfl) ?_
            refine G_dagL 3 [[], [], [1]] [[], [], []] [[], [], []] [[], [], []] [[], [], []] [[], [], []] (fun _ => []) (fun i => ([fun f v s => v = (.agg #[.slice p3850 r3848.Memory.length c3851, .slice p3855 r3848.Copy.length c3856, .slice p3860 r3848.Dirty.length c3861] : Value) ∧ s = [], fun f v s => v = (.agg #[.slice p3493 x3491.Memory.length c3494, .slice p3497 x3491.Copy.length c3498, .slice p3501 x3491.Dirty.length c3502] : Value) ∧ s = [], fun f v s => ∃ (p4354 : Option Addr) (c4355 : Nat) (sg4356 : Seg), ∃ (p4359 : Option Addr) (c4360 : Nat) (sg4361 : Seg), ∃ (p4364 : Option Addr) (c4365 : Nat) (sg4366 : Seg), v = (.agg #[.slice p4354 r4352.Memory.length c4355, .slice p4359 r4352.Copy.length c4360, .slice p4364 r4352.Dirty.length c4365] : Value) ∧ s = (sg4356 ++ (sg4361 ++ sg4366)) ∧ ownS encI r4352.Memory p4354 c4355 sg4356 ∧ ownS encI r4352.Copy p4359 c4360 sg4361 ∧ ownS encB r4352.Dirty p4364 c4365 sg4366] : List ((Nat → Value) → Value → Seg → Prop)).getD i (fun _ _ _ => False)) (fun j f v => ∃ s, (fun i => ([fun f v s => v = (.agg #[.slice p3850 r3848.Memory.length c3851, .slice p3855 r3848.Copy.length c3856, .slice p3860 r3848.Dirty.length c3861] : Value) ∧ s = [], fun f v s => v = (.agg #[.slice p3493 x3491.Memory.length c3494, .slice p3497 x3491.Copy.length c3498, .slice p3501 x3491.Dirty.length c3502] : Value) ∧ s = [], fun f v s => ∃ (p4354 : Option Addr) (c4355 : Nat) (sg4356 : Seg), ∃ (p4359 : Option Addr) (c4360 : Nat) (sg4361 : Seg), ∃ (p4364 : Option Addr) (c4365 : Nat) (sg4366 : Seg), v = (.agg #[.slice p4354 r4352.Memory.length c4355, .slice p4359 r4352.Copy.length c4360, .slice p4364 r4352.Dirty.length c4365] : Value) ∧ s = (sg4356 ++ (sg4361 ++ sg4366)) ∧ ownS encI r4352.Memory p4354 c4355 sg4356 ∧ ownS encI r4352.Copy p4359 c4360 sg4361 ∧ ownS encB r4352.Dirty p4364 c4365 sg4366] : List ((Nat → Value) → Value → Seg → Prop)).getD i (fun _ _ _ => False)) j f v s) [] [0, 2] [2] (fun _ _ _ s h => ⟨s, h⟩) (by kernel_rfl) (by kernel_rfl) (M4346.preNil 3) (by kernel_rfl) (by kernel_rfl) (by kernel_rfl) (by kernel_rfl) (allOb_cons ?_ (allOb_cons ?_ (allOb_cons ?_ allOb_nil))) ?_
            · intro g4350 f4351
              intro R w4368 M4369
              refine W_val (.agg #[.slice p3850 r3848.Memory.length c3851, .slice p3855 r3848.Copy.length c3856, .slice p3860 r3848.Dirty.length c3861]) w4368 (by kernel_rfl) (E_load (e := 28) (fr := (0, 0)) _ _ true 3 b3871 0 [.slice p3850 r3848.Memory.length c3851, .slice p3855 r3848.Copy.length c3856, .slice p3860 r3848.Dirty.length c3861] (.agg #[.slice p3850 r3848.Memory.length c3851, .slice p3855 r3848.Copy.length c3856, .slice p3860 r3848.Dirty.length c3861]) rfl (by kernel_rfl) (by kernel_rfl) (by kernel_rfl) (M4369.blk 9 (b := b3871) (o := .cells ⟨[.slice p3850 r3848.Memory.length c3851, .slice p3855 r3848.Copy.length c3856, .slice p3860 r3848.Dirty.length c3861]⟩ 28 (0, 0)) (by kernel_rfl))) ?_
              exact W_nil (ob_end (.agg #[.slice p3850 r3848.Memory.length c3851, .slice p3855 r3848.Copy.length c3856, .slice p3860 r3848.Dirty.length c3861]) [] rfl (by kernel_rfl) ⟨by kernel_rfl, rfl⟩ M4369)
            · intro g4350 f4351
              intro R w4372 M4373
              refine W_val (.agg #[.slice p3493 x3491.Memory.length c3494, .slice p3497 x3491.Copy.length c3498, .slice p3501 x3491.Dirty.length c3502]) w4372 (by kernel_rfl) (E_load (e := 25) (fr := (0, 0)) _ _ true 3 b3506 0 [.slice p3493 x3491.Memory.length c3494, .slice p3497 x3491.Copy.length c3498, .slice p3501 x3491.Dirty.length c3502] (.agg #[.slice p3493 x3491.Memory.length c3494, .slice p3497 x3491.Copy.length c3498, .slice p3501 x3491.Dirty.length c3502]) rfl (by kernel_rfl) (by kernel_rfl) (by kernel_rfl) (M4373.blk 0 (b := b3506) (o := .cells ⟨[.slice p3493 x3491.Memory.length c3494, .slice p3497 x3491.Copy.length c3498, .slice p3501 x3491.Dirty.length c3502]⟩ 25 (0, 0)) (by kernel_rfl))) ?_
              exact W_nil (ob_end (.agg #[.slice p3493 x3491.Memory.length c3494, .slice p3497 x3491.Copy.length c3498, .slice p3501 x3491.Dirty.length c3502]) [] rfl (by kernel_rfl) ⟨by kernel_rfl, rfl⟩ M4373)
            · intro g4350 f4351
              intro v1_ hb1_
              obtain ⟨rfl, _⟩ := hb1_
              intro R w4376 M4377
              refine W_call 15 #[.agg #[.slice p3493 x3491.Memory.length c3494, .slice p3497 x3491.Copy.length c3498, .slice p3501 x3491.Dirty.length c3502]] (by kernel_rfl) (by kernel_rfl) ?_
              refine (c_l_toCopying w4376 x3491 p3493 c3494 (h3495.mem0 M4377) p3497 c3498 (h3499.mem0 M4377) p3501 c3502 (h3503.mem0 M4377) hr4352).mono ?_
              rintro e_ w4378 ⟨p4354, c4355, sg4356, p4359, c4360, sg4361, p4364, c4365, sg4366, rfl, ho4357, ho4362, ho4367, K4380⟩
              refine ⟨_, rfl, ?_⟩
              exact W_nil (ob_end (.agg #[.slice p4354 r4352.Memory.length c4355, .slice p4359 r4352.Copy.length c4360, .slice p4364 r4352.Dirty.length c4365]) (sg4356 ++ (sg4361 ++ sg4366)) rfl (by kernel_rfl) ⟨p4354, c4355, sg4356, p4359, c4360, sg4361, p4364, c4365, sg4366, rfl, rfl, ho4357, ho4362, ho4367⟩ (Mem.callMid M4377 (K4380.permF (by simp))))
            · intro g4350 f4351
              intro v0_ hb0_
              obtain ⟨rfl, _⟩ := hb0_
              intro v2_ hb2_
              obtain ⟨p4354, c4355, sg4356, p4359, c4360, sg4361, p4364, c4365, sg4366, rfl, hs2_, ho4357, ho4362, ho4367⟩ := hb2_
              intro w4381 M4382
              have M4383 : Mem [] w w4381 [[(b3506, .cells ⟨[.slice p3493 x3491.Memory.length c3494, .slice p3497 x3491.Copy.length c3498, .slice p3501 x3491.Dirty.length c3502]⟩ 25 (0, 0))], [(b3510, .cells ⟨[.int .i64 x3504.Word, .int .i64 x3504.Value]⟩ 44 (0, 0))], sg3783, sg3788, sg3793, [(b3799, .cells ⟨[.slice p3781 r3779.1.Memory.length c3782, .slice p3786 r3779.1.Copy.length c3787, .slice p3791 r3779.1.Dirty.length c3792]⟩ 28 (0, 0))], sg3852, sg3857, sg3862, [(b3871, .cells ⟨[.slice p3850 r3848.Memory.length c3851, .slice p3855 r3848.Copy.length c3856, .slice p3860 r3848.Dirty.length c3861]⟩ 28 (0, 0))], sg4273, sg4278, sg4283, [(b4289, .cells ⟨[.slice p4271 r4269.1.Memory.length c4272, .slice p4276 r4269.1.Copy.length c4277, .slice p4281 r4269.1.Dirty.length c4282]⟩ 28 (0, 0))], (g4350 2)] := M4382
              rw [hs2_] at M4383
              replace M4383 : Mem [] w w4381 [[(b3506, .cells ⟨[.slice p3493 x3491.Memory.length c3494, .slice p3497 x3491.Copy.length c3498, .slice p3501 x3491.Dirty.length c3502]⟩ 25 (0, 0))], [(b3510, .cells ⟨[.int .i64 x3504.Word, .int .i64 x3504.Value]⟩ 44 (0, 0))], sg3783, sg3788, sg3793, [(b3799, .cells ⟨[.slice p3781 r3779.1.Memory.length c3782, .slice p3786 r3779.1.Copy.length c3787, .slice p3791 r3779.1.Dirty.length c3792]⟩ 28 (0, 0))], sg3852, sg3857, sg3862, [(b3871, .cells ⟨[.slice p3850 r3848.Memory.length c3851, .slice p3855 r3848.Copy.length c3856, .slice p3860 r3848.Dirty.length c3861]⟩ 28 (0, 0))], sg4273, sg4278, sg4283, [(b4289, .cells ⟨[.slice p4271 r4269.1.Memory.length c4272, .slice p4276 r4269.1.Copy.length c4277, .slice p4281 r4269.1.Dirty.length c4282]⟩ 28 (0, 0))], sg4356, sg4361, sg4366] := M4383.permF (by simp)
              obtain ⟨r4384, hr4384, hm⟩ := gx_bind hm
              refine W_call 17 #[.agg #[.slice p3850 r3848.Memory.length c3851, .slice p3855 r3848.Copy.length c3856, .slice p3860 r3848.Dirty.length c3861], .agg #[.slice p4354 r4352.Memory.length c4355, .slice p4359 r4352.Copy.length c4360, .slice p4364 r4352.Dirty.length c4365]] (by kernel_rfl) (by kernel_rfl) ?_
              refine (c_l_eqCopying w4381 r3848 p3850 c3851 (ho3853.rd M4383 6 (by kernel_rfl)) p3855 c3856 (ho3858.rd M4383 7 (by kernel_rfl)) p3860 c3861 (ho3863.rd M4383 8 (by kernel_rfl)) r4352 p4354 c4355 (ho4357.rd M4383 14 (by kernel_rfl)) p4359 c4360 (ho4362.rd M4383 15 (by kernel_rfl)) p4364 c4365 (ho4367.rd M4383 16 (by kernel_rfl)) hr4384).mono ?_
              rintro e_ w4385 ⟨rfl, K4386⟩
              have M4387 := M4383.call0 K4386
              refine ⟨_, rfl, ?_⟩
              refine W_run 1 [(2, .pointer (some ⟨b3506, 0, none⟩)), (3, .pointer (some ⟨b3510, 0, none⟩)), (6, .pointer (some ⟨b3799, 0, none⟩)), (7, .bool r3779.2), (8, .pointer (some ⟨b3871, 0, none⟩)), (9, .pointer (some ⟨b4289, 0, none⟩)), (10, .bool r4269.2), (51, .bool (!r4384))] w4385 (by kernel_rfl) ?_
              refine W_nil ?_
              refine N_then ?_
              rcases gx_bif hm with ⟨hc4388, hm⟩ | ⟨hc4388, hm⟩
              · refine G_cond_t (b := (!r4384)) hc4388 (by kernel_rfl) ?_
                refine G_seq ?_
                refine G_region ?_
                refine W_run 1 [(4, .bool false)] w4385 (by kernel_rfl) ?_
                refine W_nil ?_
                refine N_then ?_
                refine G_ret ?_
                refine N_then_ret ?_
                obtain rfl := Option.some.inj hm
                refine N_ret [.bool false] (RVs_cons (RV_tmp (by kernel_rfl)) RVs_nil) ?_
                exact ⟨rfl, M4387.pick [] (by kernel_rfl)⟩
              · refine G_cond_f (b := (!r4384)) hc4388 (by kernel_rfl) ?_
                refine G_skip ?_
                refine N_then ?_
                refine G_seq ?_
                refine G_region ?_
                refine W_run 1 [(2, .pointer (some ⟨b3506, 0, none⟩)), (3, .pointer (some ⟨b3510, 0, none⟩)), (6, .pointer (some ⟨b3799, 0, none⟩)), (7, .bool r3779.2), (8, .pointer (some ⟨b3871, 0, none⟩)), (9, .pointer (some ⟨b4289, 0, none⟩)), (10, .bool r4269.2), (11, .int .i64 1)] w4385 (by kernel_rfl) ?_
                refine W_nil ?_
                refine N_then ?_
                refine G_seq ?_
                refine G_region ?_
                refine W_val (.agg #[.slice p3850 r3848.Memory.length c3851, .slice p3855 r3848.Copy.length c3856, .slice p3860 r3848.Dirty.length c3861]) w4385 (by kernel_rfl) (E_load (e := 28) (fr := (0, 0)) _ _ true 3 b3871 0 [.slice p3850 r3848.Memory.length c3851, .slice p3855 r3848.Copy.length c3856, .slice p3860 r3848.Dirty.length c3861] (.agg #[.slice p3850 r3848.Memory.length c3851, .slice p3855 r3848.Copy.length c3856, .slice p3860 r3848.Dirty.length c3861]) rfl (by kernel_rfl) (by kernel_rfl) (by kernel_rfl) (M4387.blk 9 (b := b3871) (o := .cells ⟨[.slice p3850 r3848.Memory.length c3851, .slice p3855 r3848.Copy.length c3856, .slice p3860 r3848.Dirty.length c3861]⟩ 28 (0, 0)) (by kernel_rfl))) ?_
                refine W_run 1 [(2, .pointer (some ⟨b3506, 0, none⟩)), (3, .pointer (some ⟨b3510, 0, none⟩)), (6, .pointer (some ⟨b3799, 0, none⟩)), (7, .bool r3779.2), (9, .pointer (some ⟨b4289, 0, none⟩)), (10, .bool r4269.2), (11, .int .i64 1), (52, .agg #[.slice p3850 r3848.Memory.length c3851, .slice p3855 r3848.Copy.length c3856, .slice p3860 r3848.Dirty.length c3861]), (53, .int .i64 1)] w4385 (by kernel_rfl) ?_
                obtain ⟨r4389, hr4389, hm⟩ := gx_bind hm
                refine W_call 23 #[.agg #[.slice p3850 r3848.Memory.length c3851, .slice p3855 r3848.Copy.length c3856, .slice p3860 r3848.Dirty.length c3861], .int .i64 1] (by kernel_rfl) (by kernel_rfl) ?_
                refine (c_l_markCopying w4385 r3848 p3850 c3851 sg3852 ho3853 p3855 c3856 sg3857 ho3858 p3860 c3861 sg3862 ho3863 1 (M4387.hasPick [6, 7, 8]) (M4387.nodupPick [6, 7, 8] (by kernel_rfl)) hr4389).mono ?_
                rintro e_ w4399 ⟨sg4390, sg4393, sg4396, rfl, ho4391, hl4392, ho4394, hl4395, ho4397, hl4398, K4400⟩
                have M4401 := M4387.callF' [6, 7, 8] [0, 1, 2, 3, 4, 5, 9, 10, 11, 12, 13, 14, 15, 16] (by kernel_rfl) K4400
                refine ⟨_, rfl, ?_⟩
                refine W_conv 52 (.agg #[.slice p3850 r3848.Memory.length c3851, .slice p3855 r3848.Copy.length c3856, .slice p3860 r3848.Dirty.length c3861]) (.agg #[.slice p3850 r4389.2.1.length c3851, .slice p3855 r4389.2.2.1.length c3856, .slice p3860 r4389.2.2.2.length c3861]) (by kernel_rfl) (by first | rw [hl4392, hl4395, hl4398] | rw [hl4392] | rw [hl4395] | rw [hl4398]) ?_
                have M4402 : Mem [] w w4399 [[(b3506, .cells ⟨[.slice p3493 x3491.Memory.length c3494, .slice p3497 x3491.Copy.length c3498, .slice p3501 x3491.Dirty.length c3502]⟩ 25 (0, 0))], [(b3510, .cells ⟨[.int .i64 x3504.Word, .int .i64 x3504.Value]⟩ 44 (0, 0))], sg3783, sg3788, sg3793, [(b3799, .cells ⟨[.slice p3781 r3779.1.Memory.length c3782, .slice p3786 r3779.1.Copy.length c3787, .slice p3791 r3779.1.Dirty.length c3792]⟩ 28 (0, 0))], [(b3871, .cells ⟨[.slice p3850 r4389.2.1.length c3851, .slice p3855 r4389.2.2.1.length c3856, .slice p3860 r4389.2.2.2.length c3861]⟩ 28 (0, 0))], sg4273, sg4278, sg4283, [(b4289, .cells ⟨[.slice p4271 r4269.1.Memory.length c4272, .slice p4276 r4269.1.Copy.length c4277, .slice p4281 r4269.1.Dirty.length c4282]⟩ 28 (0, 0))], sg4356, sg4361, sg4366, sg4390, sg4393, sg4396] := by rw [hl4392, hl4395, hl4398]; exact M4401
                refine W_run 1 [(2, .pointer (some ⟨b3506, 0, none⟩)), (3, .pointer (some ⟨b3510, 0, none⟩)), (6, .pointer (some ⟨b3799, 0, none⟩)), (7, .bool r3779.2), (9, .pointer (some ⟨b4289, 0, none⟩)), (10, .bool r4269.2), (11, .int .i64 r4389.1)] w4399 (by kernel_rfl) ?_
                refine W_nil ?_
                refine N_then ?_
                refine G_seq ?_
                refine G_seq ?_
                obtain ⟨o4409, ho4410, hm4411⟩ := gx_bind hm
                refine G_meet (fun a w' => Mem [] w w' [[(b3506, .cells ⟨[.slice p3493 x3491.Memory.length c3494, .slice p3497 x3491.Copy.length c3498, .slice p3501 x3491.Dirty.length c3502]⟩ 25 (0, 0))], [(b3510, .cells ⟨[.int .i64 x3504.Word, .int .i64 x3504.Value]⟩ 44 (0, 0))], sg3783, sg3788, sg3793, [(b3799, .cells ⟨[.slice p3781 r3779.1.Memory.length c3782, .slice p3786 r3779.1.Copy.length c3787, .slice p3791 r3779.1.Dirty.length c3792]⟩ 28 (0, 0))], sg4273, sg4278, sg4283, [(b4289, .cells ⟨[.slice p4271 r4269.1.Memory.length c4272, .slice p4276 r4269.1.Copy.length c4277, .slice p4281 r4269.1.Dirty.length c4282]⟩ 28 (0, 0))]] ∧ Sat Try.f7.ntmps [(2, .pointer (some ⟨b3506, 0, none⟩)), (3, .pointer (some ⟨b3510, 0, none⟩)), (6, .pointer (some ⟨b3799, 0, none⟩)), (7, .bool r3779.2), (9, .pointer (some ⟨b4289, 0, none⟩)), (67, .bool o4409)] a) ?_ ?_
                · have hm := ho4410
                  refine G_region ?_
                  refine W_run 3 [(2, .pointer (some ⟨b3506, 0, none⟩)), (3, .pointer (some ⟨b3510, 0, none⟩)), (6, .pointer (some ⟨b3799, 0, none⟩)), (7, .bool r3779.2), (9, .pointer (some ⟨b4289, 0, none⟩)), (10, .bool r4269.2), (57, .bool (decide (r4389.1 < 0)))] w4399 (by kernel_rfl) ?_
                  rcases gx_bif hm with ⟨hc4412, hm⟩ | ⟨hc4412, hm⟩
                  · refine W_known 57 true (by kernel_rfl) hc4412 ?_
                    refine W_run 10 [(2, .pointer (some ⟨b3506, 0, none⟩)), (3, .pointer (some ⟨b3510, 0, none⟩)), (6, .pointer (some ⟨b3799, 0, none⟩)), (7, .bool r3779.2), (9, .pointer (some ⟨b4289, 0, none⟩)), (67, .bool true)] w4399 (by kernel_rfl) ?_
                    refine W_nil ?_
                    obtain rfl := Option.some.inj hm
                    exact N_meet fun a ha => ⟨M4402.pick [0, 1, 2, 3, 4, 5, 7, 8, 9, 10] (by kernel_rfl), ha.sub (by kernel_rfl)⟩
                  · refine W_known 57 false (by kernel_rfl) hc4412 ?_
                    refine W_val (.agg #[.slice p4271 r4269.1.Memory.length c4272, .slice p4276 r4269.1.Copy.length c4277, .slice p4281 r4269.1.Dirty.length c4282]) w4399 (by kernel_rfl) (E_load (e := 28) (fr := (0, 0)) _ _ true 3 b4289 0 [.slice p4271 r4269.1.Memory.length c4272, .slice p4276 r4269.1.Copy.length c4277, .slice p4281 r4269.1.Dirty.length c4282] (.agg #[.slice p4271 r4269.1.Memory.length c4272, .slice p4276 r4269.1.Copy.length c4277, .slice p4281 r4269.1.Dirty.length c4282]) rfl (by kernel_rfl) (by kernel_rfl) (by kernel_rfl) (M4402.blk 10 (b := b4289) (o := .cells ⟨[.slice p4271 r4269.1.Memory.length c4272, .slice p4276 r4269.1.Copy.length c4277, .slice p4281 r4269.1.Dirty.length c4282]⟩ 28 (0, 0)) (by kernel_rfl))) ?_
                    refine W_val (.agg #[.slice p3781 r3779.1.Memory.length c3782, .slice p3786 r3779.1.Copy.length c3787, .slice p3791 r3779.1.Dirty.length c3792]) w4399 (by kernel_rfl) (E_load (e := 28) (fr := (0, 0)) _ _ true 3 b3799 0 [.slice p3781 r3779.1.Memory.length c3782, .slice p3786 r3779.1.Copy.length c3787, .slice p3791 r3779.1.Dirty.length c3792] (.agg #[.slice p3781 r3779.1.Memory.length c3782, .slice p3786 r3779.1.Copy.length c3787, .slice p3791 r3779.1.Dirty.length c3792]) rfl (by kernel_rfl) (by kernel_rfl) (by kernel_rfl) (M4402.blk 5 (b := b3799) (o := .cells ⟨[.slice p3781 r3779.1.Memory.length c3782, .slice p3786 r3779.1.Copy.length c3787, .slice p3791 r3779.1.Dirty.length c3792]⟩ 28 (0, 0)) (by kernel_rfl))) ?_
                    obtain ⟨r4413, hr4413, hm⟩ := gx_bind hm
                    refine W_call 17 #[.agg #[.slice p4271 r4269.1.Memory.length c4272, .slice p4276 r4269.1.Copy.length c4277, .slice p4281 r4269.1.Dirty.length c4282], .agg #[.slice p3781 r3779.1.Memory.length c3782, .slice p3786 r3779.1.Copy.length c3787, .slice p3791 r3779.1.Dirty.length c3792]] (by kernel_rfl) (by kernel_rfl) ?_
                    refine (c_l_eqCopying w4399 r4269.1 p4271 c4272 (ho4274.rd M4402 7 (by kernel_rfl)) p4276 c4277 (ho4279.rd M4402 8 (by kernel_rfl)) p4281 c4282 (ho4284.rd M4402 9 (by kernel_rfl)) r3779.1 p3781 c3782 (ho3784.rd M4402 2 (by kernel_rfl)) p3786 c3787 (ho3789.rd M4402 3 (by kernel_rfl)) p3791 c3792 (ho3794.rd M4402 4 (by kernel_rfl)) hr4413).mono ?_
                    rintro e_ w4414 ⟨rfl, K4415⟩
                    have M4416 := M4402.call0 K4415
                    refine ⟨_, rfl, ?_⟩
                    refine W_run 3 [(2, .pointer (some ⟨b3506, 0, none⟩)), (3, .pointer (some ⟨b3510, 0, none⟩)), (6, .pointer (some ⟨b3799, 0, none⟩)), (7, .bool r3779.2), (9, .pointer (some ⟨b4289, 0, none⟩)), (10, .bool r4269.2), (63, .bool (!r4413))] w4414 (by kernel_rfl) ?_
                    rcases gx_bif hm with ⟨hc4417, hm⟩ | ⟨hc4417, hm⟩
                    · refine W_known 63 true (by kernel_rfl) hc4417 ?_
                      refine W_run 4 [(2, .pointer (some ⟨b3506, 0, none⟩)), (3, .pointer (some ⟨b3510, 0, none⟩)), (6, .pointer (some ⟨b3799, 0, none⟩)), (7, .bool r3779.2), (9, .pointer (some ⟨b4289, 0, none⟩)), (67, .bool true)] w4414 (by kernel_rfl) ?_
                      refine W_nil ?_
                      obtain rfl := Option.some.inj hm
                      exact N_meet fun a ha => ⟨M4416.pick [0, 1, 2, 3, 4, 5, 7, 8, 9, 10] (by kernel_rfl), ha.sub (by kernel_rfl)⟩
                    · refine W_known 63 false (by kernel_rfl) hc4417 ?_
                      refine W_run 4 [(2, .pointer (some ⟨b3506, 0, none⟩)), (3, .pointer (some ⟨b3510, 0, none⟩)), (6, .pointer (some ⟨b3799, 0, none⟩)), (7, .bool r3779.2), (9, .pointer (some ⟨b4289, 0, none⟩)), (67, .bool (!(r4269.2 == r3779.2)))] w4414 (by kernel_rfl) ?_
                      refine W_nil ?_
                      obtain rfl := Option.some.inj hm
                      exact N_meet fun a ha => ⟨M4416.pick [0, 1, 2, 3, 4, 5, 7, 8, 9, 10] (by kernel_rfl), ha.sub (by kernel_rfl)⟩
                · intro a4420 w4418 ⟨M4419, hS4421⟩
                  refine N_use hS4421 ?_
                  have hm := hm4411
                  refine N_then ?_
                  rcases gx_bif hm with ⟨hc4422, hm⟩ | ⟨hc4422, hm⟩
                  · refine G_cond_t (b := o4409) hc4422 (by kernel_rfl) ?_
                    refine G_seq ?_
                    refine G_region ?_
                    refine W_run 1 [(4, .bool false)] w4418 (by kernel_rfl) ?_
                    refine W_nil ?_
                    refine N_then ?_
                    refine G_ret ?_
                    refine N_then_ret ?_
                    obtain rfl := Option.some.inj hm
                    refine N_ret [.bool false] (RVs_cons (RV_tmp (by kernel_rfl)) RVs_nil) ?_
                    exact ⟨rfl, M4419.pick [] (by kernel_rfl)⟩
                  · refine G_cond_f (b := o4409) hc4422 (by kernel_rfl) ?_
                    refine G_skip ?_
                    refine N_then ?_
                    refine G_seq ?_
                    refine G_region ?_
                    refine W_run 1 [(2, .pointer (some ⟨b3506, 0, none⟩)), (3, .pointer (some ⟨b3510, 0, none⟩)), (6, .pointer (some ⟨b3799, 0, none⟩)), (7, .bool r3779.2), (9, .pointer (some ⟨b4289, 0, none⟩)), (12, .int .i64 1)] w4418 (by kernel_rfl) ?_
                    refine W_nil ?_
                    refine N_then ?_
                    refine G_seq ?_
                    refine G_region ?_
                    refine W_val (.agg #[.slice p4271 r4269.1.Memory.length c4272, .slice p4276 r4269.1.Copy.length c4277, .slice p4281 r4269.1.Dirty.length c4282]) w4418 (by kernel_rfl) (E_load (e := 28) (fr := (0, 0)) _ _ true 3 b4289 0 [.slice p4271 r4269.1.Memory.length c4272, .slice p4276 r4269.1.Copy.length c4277, .slice p4281 r4269.1.Dirty.length c4282] (.agg #[.slice p4271 r4269.1.Memory.length c4272, .slice p4276 r4269.1.Copy.length c4277, .slice p4281 r4269.1.Dirty.length c4282]) rfl (by kernel_rfl) (by kernel_rfl) (by kernel_rfl) (M4419.blk 9 (b := b4289) (o := .cells ⟨[.slice p4271 r4269.1.Memory.length c4272, .slice p4276 r4269.1.Copy.length c4277, .slice p4281 r4269.1.Dirty.length c4282]⟩ 28 (0, 0)) (by kernel_rfl))) ?_
                    refine W_run 1 [(2, .pointer (some ⟨b3506, 0, none⟩)), (3, .pointer (some ⟨b3510, 0, none⟩)), (6, .pointer (some ⟨b3799, 0, none⟩)), (7, .bool r3779.2), (9, .pointer (some ⟨b4289, 0, none⟩)), (12, .int .i64 1), (68, .agg #[.slice p4271 r4269.1.Memory.length c4272, .slice p4276 r4269.1.Copy.length c4277, .slice p4281 r4269.1.Dirty.length c4282]), (69, .int .i64 1)] w4418 (by kernel_rfl) ?_
                    obtain ⟨r4423, hr4423, hm⟩ := gx_bind hm
                    refine W_call 23 #[.agg #[.slice p4271 r4269.1.Memory.length c4272, .slice p4276 r4269.1.Copy.length c4277, .slice p4281 r4269.1.Dirty.length c4282], .int .i64 1] (by kernel_rfl) (by kernel_rfl) ?_
                    refine (c_l_markCopying w4418 r4269.1 p4271 c4272 sg4273 ho4274 p4276 c4277 sg4278 ho4279 p4281 c4282 sg4283 ho4284 1 (M4419.hasPick [6, 7, 8]) (M4419.nodupPick [6, 7, 8] (by kernel_rfl)) hr4423).mono ?_
                    rintro e_ w4433 ⟨sg4424, sg4427, sg4430, rfl, ho4425, hl4426, ho4428, hl4429, ho4431, hl4432, K4434⟩
                    have M4435 := M4419.callF' [6, 7, 8] [0, 1, 2, 3, 4, 5, 9] (by kernel_rfl) K4434
                    refine ⟨_, rfl, ?_⟩
                    refine W_conv 68 (.agg #[.slice p4271 r4269.1.Memory.length c4272, .slice p4276 r4269.1.Copy.length c4277, .slice p4281 r4269.1.Dirty.length c4282]) (.agg #[.slice p4271 r4423.2.1.length c4272, .slice p4276 r4423.2.2.1.length c4277, .slice p4281 r4423.2.2.2.length c4282]) (by kernel_rfl) (by first | rw [hl4426, hl4429, hl4432] | rw [hl4426] | rw [hl4429] | rw [hl4432]) ?_
                    have M4436 : Mem [] w w4433 [[(b3506, .cells ⟨[.slice p3493 x3491.Memory.length c3494, .slice p3497 x3491.Copy.length c3498, .slice p3501 x3491.Dirty.length c3502]⟩ 25 (0, 0))], [(b3510, .cells ⟨[.int .i64 x3504.Word, .int .i64 x3504.Value]⟩ 44 (0, 0))], sg3783, sg3788, sg3793, [(b3799, .cells ⟨[.slice p3781 r3779.1.Memory.length c3782, .slice p3786 r3779.1.Copy.length c3787, .slice p3791 r3779.1.Dirty.length c3792]⟩ 28 (0, 0))], [(b4289, .cells ⟨[.slice p4271 r4423.2.1.length c4272, .slice p4276 r4423.2.2.1.length c4277, .slice p4281 r4423.2.2.2.length c4282]⟩ 28 (0, 0))], sg4424, sg4427, sg4430] := by rw [hl4426, hl4429, hl4432]; exact M4435
                    refine W_run 1 [(2, .pointer (some ⟨b3506, 0, none⟩)), (3, .pointer (some ⟨b3510, 0, none⟩)), (6, .pointer (some ⟨b3799, 0, none⟩)), (7, .bool r3779.2), (9, .pointer (some ⟨b4289, 0, none⟩)), (12, .int .i64 r4423.1)] w4433 (by kernel_rfl) ?_
                    refine W_nil ?_
                    refine N_then ?_
                    refine G_seq ?_
                    refine G_region ?_
                    refine W_run 1 [(2, .pointer (some ⟨b3506, 0, none⟩)), (3, .pointer (some ⟨b3510, 0, none⟩)), (6, .pointer (some ⟨b3799, 0, none⟩)), (7, .bool r3779.2), (9, .pointer (some ⟨b4289, 0, none⟩)), (12, .int .i64 r4423.1), (13, .int .i64 1)] w4433 (by kernel_rfl) ?_
                    refine W_nil ?_
                    refine N_then ?_
                    refine G_seq ?_
                    refine G_region ?_
                    refine W_val (.agg #[.slice p4271 r4423.2.1.length c4272, .slice p4276 r4423.2.2.1.length c4277, .slice p4281 r4423.2.2.2.length c4282]) w4433 (by kernel_rfl) (E_load (e := 28) (fr := (0, 0)) _ _ true 3 b4289 0 [.slice p4271 r4423.2.1.length c4272, .slice p4276 r4423.2.2.1.length c4277, .slice p4281 r4423.2.2.2.length c4282] (.agg #[.slice p4271 r4423.2.1.length c4272, .slice p4276 r4423.2.2.1.length c4277, .slice p4281 r4423.2.2.2.length c4282]) rfl (by kernel_rfl) (by kernel_rfl) (by kernel_rfl) (M4436.blk 6 (b := b4289) (o := .cells ⟨[.slice p4271 r4423.2.1.length c4272, .slice p4276 r4423.2.2.1.length c4277, .slice p4281 r4423.2.2.2.length c4282]⟩ 28 (0, 0)) (by kernel_rfl))) ?_
                    refine W_run 1 [(2, .pointer (some ⟨b3506, 0, none⟩)), (3, .pointer (some ⟨b3510, 0, none⟩)), (6, .pointer (some ⟨b3799, 0, none⟩)), (7, .bool r3779.2), (9, .pointer (some ⟨b4289, 0, none⟩)), (12, .int .i64 r4423.1), (13, .int .i64 1), (71, .agg #[.slice p4271 r4423.2.1.length c4272, .slice p4276 r4423.2.2.1.length c4277, .slice p4281 r4423.2.2.2.length c4282]), (72, .int .i64 1)] w4433 (by kernel_rfl) ?_
                    obtain ⟨r4437, hr4437, hm⟩ := gx_bind hm
                    refine W_call 24 #[.agg #[.slice p4271 r4423.2.1.length c4272, .slice p4276 r4423.2.2.1.length c4277, .slice p4281 r4423.2.2.2.length c4282], .int .i64 1] (by kernel_rfl) (by kernel_rfl) ?_
                    refine (c_l_heldCopying w4433 (⟨r4423.2.1, r4423.2.2.1, r4423.2.2.2⟩ : Copying) p4271 c4272 (ho4425.rd M4436 7 (by kernel_rfl)) p4276 c4277 (ho4428.rd M4436 8 (by kernel_rfl)) p4281 c4282 (ho4431.rd M4436 9 (by kernel_rfl)) 1 hr4437).mono ?_
                    rintro e_ w4438 ⟨rfl, K4439⟩
                    have M4440 := M4436.call0 K4439
                    refine ⟨_, rfl, ?_⟩
                    refine W_run 1 [(2, .pointer (some ⟨b3506, 0, none⟩)), (3, .pointer (some ⟨b3510, 0, none⟩)), (6, .pointer (some ⟨b3799, 0, none⟩)), (7, .bool r3779.2), (9, .pointer (some ⟨b4289, 0, none⟩)), (12, .int .i64 r4423.1), (13, .int .i64 r4437)] w4438 (by kernel_rfl) ?_
                    refine W_nil ?_
                    refine N_then ?_
                    refine G_seq ?_
                    refine G_seq ?_
                    refine G_region ?_
                    refine W_run 2 [(2, .pointer (some ⟨b3506, 0, none⟩)), (3, .pointer (some ⟨b3510, 0, none⟩)), (6, .pointer (some ⟨b3799, 0, none⟩)), (7, .bool r3779.2), (9, .pointer (some ⟨b4289, 0, none⟩)), (12, .int .i64 r4423.1), (13, .int .i64 r4437), (75, .bool (decide (r4437 < 0)))] w4438 (by kernel_rfl) ?_
                    refine W_nil ?_
                    refine N_then ?_
                    rcases gx_bif hm with ⟨hc4441, hm⟩ | ⟨hc4441, hm⟩
                    · refine G_cond_t (b := (decide (r4437 < 0))) hc4441 (by kernel_rfl) ?_
                      refine G_seq ?_
                      refine G_region ?_
                      refine W_run 1 [(4, .bool false)] w4438 (by kernel_rfl) ?_
                      refine W_nil ?_
                      refine N_then ?_
                      refine G_ret ?_
                      refine N_then_ret ?_
                      obtain rfl := Option.some.inj hm
                      refine N_ret [.bool false] (RVs_cons (RV_tmp (by kernel_rfl)) RVs_nil) ?_
                      exact ⟨rfl, M4440.pick [] (by kernel_rfl)⟩
                    · refine G_cond_f (b := (decide (r4437 < 0))) hc4441 (by kernel_rfl) ?_
                      refine G_skip ?_
                      refine N_then ?_
                      refine G_seq ?_
                      refine G_seq ?_
                      refine G_region ?_
                      refine W_run 3 [(2, .pointer (some ⟨b3506, 0, none⟩)), (3, .pointer (some ⟨b3510, 0, none⟩)), (6, .pointer (some ⟨b3799, 0, none⟩)), (7, .bool r3779.2), (9, .pointer (some ⟨b4289, 0, none⟩)), (12, .int .i64 r4423.1), (78, .bool (r4437 != r4423.1))] w4438 (by kernel_rfl) ?_
                      refine W_nil ?_
                      refine N_then ?_
                      rcases gx_bif hm with ⟨hc4442, hm⟩ | ⟨hc4442, hm⟩
                      · refine G_cond_t (b := (r4437 != r4423.1)) hc4442 (by kernel_rfl) ?_
                        refine G_seq ?_
                        refine G_region ?_
                        refine W_run 1 [(4, .bool false)] w4438 (by kernel_rfl) ?_
                        refine W_nil ?_
                        refine N_then ?_
                        refine G_ret ?_
                        refine N_then_ret ?_
                        obtain rfl := Option.some.inj hm
                        refine N_ret [.bool false] (RVs_cons (RV_tmp (by kernel_rfl)) RVs_nil) ?_
                        exact ⟨rfl, M4440.pick [] (by kernel_rfl)⟩
                      · refine G_cond_f (b := (r4437 != r4423.1)) hc4442 (by kernel_rfl) ?_
                        refine G_skip ?_
                        refine N_then ?_
                        refine G_seq ?_
                        obtain ⟨r4445, hr4445, hm⟩ := gx_bind hm
                        obtain ⟨r4461, hr4461, hm⟩ := gx_bind hm
                        obtain ⟨r4462, hr4462, hm⟩ := gx_bind hm
                        refine G_sub [(2, .pointer (some ⟨b3506, 0, none⟩)), (3, .pointer (some ⟨b3510, 0, none⟩)), (6, .pointer (some ⟨b3799, 0, none⟩)), (7, .bool r3779.2), (9, .pointer (some ⟨b4289, 0, none⟩)), (12, .int .i64 r4423.1), (78, .bool (r4437 != r4423.1))] (by kernel_rfl) ?_
                        refine G_dagL 10 [[], [0], [], [2], [1, 3], [], [5], [5], [], [6, 8]] [[], [], [], [], [], [], [], [], [], [8]] [[], [], [], [], [1], [], [], [], [], []] [[], [], [], [], [], [4], [4], [4], [], [4]] [[], [], [], [], [], [4], [4], [], [], [4, 8]] [[], [], [], [], [], [], [], [], [], []] (fun _ => []) (fun i => ([fun f v s => v = (.agg #[.slice p3493 x3491.Memory.length c3494, .slice p3497 x3491.Copy.length c3498, .slice p3501 x3491.Dirty.length c3502] : Value) ∧ s = [], fun f v s => ∃ (p4447 : Option Addr) (c4448 : Nat) (sg4449 : Seg), ∃ (p4452 : Option Addr) (c4453 : Nat) (sg4454 : Seg), ∃ (p4457 : Option Addr) (c4458 : Nat) (sg4459 : Seg), v = (.agg #[.slice p4447 r4445.Memory.length c4448, .slice p4452 r4445.Copy.length c4453, .slice p4457 r4445.Dirty.length c4458] : Value) ∧ s = (sg4449 ++ (sg4454 ++ sg4459)) ∧ ownS encI r4445.Memory p4447 c4448 sg4449 ∧ ownS encI r4445.Copy p4452 c4453 sg4454 ∧ ownS encB r4445.Dirty p4457 c4458 sg4459, fun f v s => v = (.agg #[.int .i64 x3504.Word, .int .i64 x3504.Value] : Value) ∧ s = [], fun f v s => v = (.agg #[.int .i64 r4461.Word, .int .i64 r4461.Value] : Value) ∧ s = [], fun f v s => ∃ (p4464 : Option Addr) (c4465 : Nat) (sg4466 : Seg), ∃ (p4469 : Option Addr) (c4470 : Nat) (sg4471 : Seg), ∃ (p4474 : Option Addr) (c4475 : Nat) (sg4476 : Seg), v = (.tuple #[.agg #[.slice p4464 r4462.1.Memory.length c4465, .slice p4469 r4462.1.Copy.length c4470, .slice p4474 r4462.1.Dirty.length c4475], .bool r4462.2] : Value) ∧ s = (sg4466 ++ (sg4471 ++ sg4476)) ∧ ownS encI r4462.1.Memory p4464 c4465 sg4466 ∧ ownS encI r4462.1.Copy p4469 c4470 sg4471 ∧ ownS encB r4462.1.Dirty p4474 c4475 sg4476, fun f v s => v = (.tuple #[.agg #[(atPath (f 4) [0, 0]), (atPath (f 4) [0, 1]), (atPath (f 4) [0, 2])], .bool r4462.2] : Value) ∧ s = [], fun f v s => v = (.agg #[(atPath (f 4) [0, 0]), (atPath (f 4) [0, 1]), (atPath (f 4) [0, 2])] : Value) ∧ s = [], fun f v s => v = (.bool r4462.2 : Value) ∧ s = [], fun f v s => ∃ (b4482 : Nat), v = (.pointer (some ⟨b4482, 0, none⟩) : Value) ∧ s = [(b4482, .cells ⟨[.slice none 0 0, .slice none 0 0, .slice none 0 0]⟩ 28 (0, 0))], fun f v s => v = undef ∧ s = [((blkOf (f 8)), .cells ⟨[(atPath (f 4) [0, 0]), (atPath (f 4) [0, 1]), (atPath (f 4) [0, 2])]⟩ 28 (0, 0))]] : List ((Nat → Value) → Value → Seg → Prop)).getD i (fun _ _ _ => False)) (fun j f v => ∃ s, (fun i => ([fun f v s => v = (.agg #[.slice p3493 x3491.Memory.length c3494, .slice p3497 x3491.Copy.length c3498, .slice p3501 x3491.Dirty.length c3502] : Value) ∧ s = [], fun f v s => ∃ (p4447 : Option Addr) (c4448 : Nat) (sg4449 : Seg), ∃ (p4452 : Option Addr) (c4453 : Nat) (sg4454 : Seg), ∃ (p4457 : Option Addr) (c4458 : Nat) (sg4459 : Seg), v = (.agg #[.slice p4447 r4445.Memory.length c4448, .slice p4452 r4445.Copy.length c4453, .slice p4457 r4445.Dirty.length c4458] : Value) ∧ s = (sg4449 ++ (sg4454 ++ sg4459)) ∧ ownS encI r4445.Memory p4447 c4448 sg4449 ∧ ownS encI r4445.Copy p4452 c4453 sg4454 ∧ ownS encB r4445.Dirty p4457 c4458 sg4459, fun f v s => v = (.agg #[.int .i64 x3504.Word, .int .i64 x3504.Value] : Value) ∧ s = [], fun f v s => v = (.agg #[.int .i64 r4461.Word, .int .i64 r4461.Value] : Value) ∧ s = [], fun f v s => ∃ (p4464 : Option Addr) (c4465 : Nat) (sg4466 : Seg), ∃ (p4469 : Option Addr) (c4470 : Nat) (sg4471 : Seg), ∃ (p4474 : Option Addr) (c4475 : Nat) (sg4476 : Seg), v = (.tuple #[.agg #[.slice p4464 r4462.1.Memory.length c4465, .slice p4469 r4462.1.Copy.length c4470, .slice p4474 r4462.1.Dirty.length c4475], .bool r4462.2] : Value) ∧ s = (sg4466 ++ (sg4471 ++ sg4476)) ∧ ownS encI r4462.1.Memory p4464 c4465 sg4466 ∧ ownS encI r4462.1.Copy p4469 c4470 sg4471 ∧ ownS encB r4462.1.Dirty p4474 c4475 sg4476, fun f v s => v = (.tuple #[.agg #[(atPath (f 4) [0, 0]), (atPath (f 4) [0, 1]), (atPath (f 4) [0, 2])], .bool r4462.2] : Value) ∧ s = [], fun f v s => v = (.agg #[(atPath (f 4) [0, 0]), (atPath (f 4) [0, 1]), (atPath (f 4) [0, 2])] : Value) ∧ s = [], fun f v s => v = (.bool r4462.2 : Value) ∧ s = [], fun f v s => ∃ (b4482 : Nat), v = (.pointer (some ⟨b4482, 0, none⟩) : Value) ∧ s = [(b4482, .cells ⟨[.slice none 0 0, .slice none 0 0, .slice none 0 0]⟩ 28 (0, 0))], fun f v s => v = undef ∧ s = [((blkOf (f 8)), .cells ⟨[(atPath (f 4) [0, 0]), (atPath (f 4) [0, 1]), (atPath (f 4) [0, 2])]⟩ 28 (0, 0))]] : List ((Nat → Value) → Value → Seg → Prop)).getD i (fun _ _ _ => False)) j f v s) [8] [1, 4, 7, 9] [1, 4, 9] (fun _ _ _ s h => ⟨s, h⟩) (by kernel_rfl) (by kernel_rfl) (M4440.preNil 10) (by kernel_rfl) (by kernel_rfl) (by kernel_rfl) (by kernel_rfl) (allOb_cons ?_ (allOb_cons ?_ (allOb_cons ?_ (allOb_cons ?_ (allOb_cons ?_ (allOb_cons ?_ (allOb_cons ?_ (allOb_cons ?_ (allOb_cons ?_ (allOb_cons ?_ allOb_nil)))))))))) ?_
                        · intro g4443 f4444
                          intro R w4483 M4484
                          refine W_val (.agg #[.slice p3493 x3491.Memory.length c3494, .slice p3497 x3491.Copy.length c3498, .slice p3501 x3491.Dirty.length c3502]) w4483 (by kernel_rfl) (E_load (e := 25) (fr := (0, 0)) _ _ true 3 b3506 0 [.slice p3493 x3491.Memory.length c3494, .slice p3497 x3491.Copy.length c3498, .slice p3501 x3491.Dirty.length c3502] (.agg #[.slice p3493 x3491.Memory.length c3494, .slice p3497 x3491.Copy.length c3498, .slice p3501 x3491.Dirty.length c3502]) rfl (by kernel_rfl) (by kernel_rfl) (by kernel_rfl) (M4484.blk 0 (b := b3506) (o := .cells ⟨[.slice p3493 x3491.Memory.length c3494, .slice p3497 x3491.Copy.length c3498, .slice p3501 x3491.Dirty.length c3502]⟩ 25 (0, 0)) (by kernel_rfl))) ?_
                          exact W_nil (ob_end (.agg #[.slice p3493 x3491.Memory.length c3494, .slice p3497 x3491.Copy.length c3498, .slice p3501 x3491.Dirty.length c3502]) [] rfl (by kernel_rfl) ⟨by kernel_rfl, rfl⟩ M4484)
                        · intro g4443 f4444
                          intro v0_ hb0_
                          obtain ⟨rfl, _⟩ := hb0_
                          intro R w4487 M4488
                          refine W_call 15 #[.agg #[.slice p3493 x3491.Memory.length c3494, .slice p3497 x3491.Copy.length c3498, .slice p3501 x3491.Dirty.length c3502]] (by kernel_rfl) (by kernel_rfl) ?_
                          refine (c_l_toCopying w4487 x3491 p3493 c3494 (h3495.mem0 M4488) p3497 c3498 (h3499.mem0 M4488) p3501 c3502 (h3503.mem0 M4488) hr4445).mono ?_
                          rintro e_ w4489 ⟨p4447, c4448, sg4449, p4452, c4453, sg4454, p4457, c4458, sg4459, rfl, ho4450, ho4455, ho4460, K4491⟩
                          refine ⟨_, rfl, ?_⟩
                          exact W_nil (ob_end (.agg #[.slice p4447 r4445.Memory.length c4448, .slice p4452 r4445.Copy.length c4453, .slice p4457 r4445.Dirty.length c4458]) (sg4449 ++ (sg4454 ++ sg4459)) rfl (by kernel_rfl) ⟨p4447, c4448, sg4449, p4452, c4453, sg4454, p4457, c4458, sg4459, rfl, rfl, ho4450, ho4455, ho4460⟩ (Mem.callMid M4488 (K4491.permF (by simp))))
                        · intro g4443 f4444
                          intro R w4492 M4493
                          refine W_val (.agg #[.int .i64 x3504.Word, .int .i64 x3504.Value]) w4492 (by kernel_rfl) (E_load (e := 44) (fr := (0, 0)) _ _ true 2 b3510 0 [.int .i64 x3504.Word, .int .i64 x3504.Value] (.agg #[.int .i64 x3504.Word, .int .i64 x3504.Value]) rfl (by kernel_rfl) (by kernel_rfl) (by kernel_rfl) (M4493.blk 1 (b := b3510) (o := .cells ⟨[.int .i64 x3504.Word, .int .i64 x3504.Value]⟩ 44 (0, 0)) (by kernel_rfl))) ?_
                          exact W_nil (ob_end (.agg #[.int .i64 x3504.Word, .int .i64 x3504.Value]) [] rfl (by kernel_rfl) ⟨by kernel_rfl, rfl⟩ M4493)
                        · intro g4443 f4444
                          intro v2_ hb2_
                          obtain ⟨rfl, _⟩ := hb2_
                          intro R w4496 M4497
                          refine W_call 31 #[.agg #[.int .i64 x3504.Word, .int .i64 x3504.Value]] (by kernel_rfl) (by kernel_rfl) ?_
                          refine (c_l_toStore w4496 x3504 hr4461).mono ?_
                          rintro e_ w4498 ⟨rfl, K4500⟩
                          refine ⟨_, rfl, ?_⟩
                          exact W_nil (ob_end (.agg #[.int .i64 r4461.Word, .int .i64 r4461.Value]) [] rfl (by kernel_rfl) ⟨rfl, rfl⟩ (M4497.call0 K4500))
                        · intro g4443 f4444
                          intro v1_ hb1_
                          obtain ⟨p4447, c4448, sg4449, p4452, c4453, sg4454, p4457, c4458, sg4459, rfl, hs1_, ho4450, ho4455, ho4460⟩ := hb1_
                          intro v3_ hb3_
                          obtain ⟨rfl, _⟩ := hb3_
                          intro R w4501 M4502
                          have M4503 : Mem [] w w4501 ([[(b3506, .cells ⟨[.slice p3493 x3491.Memory.length c3494, .slice p3497 x3491.Copy.length c3498, .slice p3501 x3491.Dirty.length c3502]⟩ 25 (0, 0))], [(b3510, .cells ⟨[.int .i64 x3504.Word, .int .i64 x3504.Value]⟩ 44 (0, 0))], sg3783, sg3788, sg3793, [(b3799, .cells ⟨[.slice p3781 r3779.1.Memory.length c3782, .slice p3786 r3779.1.Copy.length c3787, .slice p3791 r3779.1.Dirty.length c3792]⟩ 28 (0, 0))], [(b4289, .cells ⟨[.slice p4271 r4423.2.1.length c4272, .slice p4276 r4423.2.2.1.length c4277, .slice p4281 r4423.2.2.2.length c4282]⟩ 28 (0, 0))], sg4424, sg4427, sg4430] ++ ([[]] ++ ([(g4443 1)] ++ ([] ++ R)))) := M4502
                          rw [hs1_] at M4503
                          replace M4503 : Mem [] w w4501 ([[(b3506, .cells ⟨[.slice p3493 x3491.Memory.length c3494, .slice p3497 x3491.Copy.length c3498, .slice p3501 x3491.Dirty.length c3502]⟩ 25 (0, 0))], [(b3510, .cells ⟨[.int .i64 x3504.Word, .int .i64 x3504.Value]⟩ 44 (0, 0))], sg3783, sg3788, sg3793, [(b3799, .cells ⟨[.slice p3781 r3779.1.Memory.length c3782, .slice p3786 r3779.1.Copy.length c3787, .slice p3791 r3779.1.Dirty.length c3792]⟩ 28 (0, 0))], [(b4289, .cells ⟨[.slice p4271 r4423.2.1.length c4272, .slice p4276 r4423.2.2.1.length c4277, .slice p4281 r4423.2.2.2.length c4282]⟩ 28 (0, 0))], sg4424, sg4427, sg4430] ++ ([[]] ++ ([sg4449, sg4454, sg4459] ++ ([] ++ R)))) := M4503.permF (by simp)
                          refine W_call 32 #[.agg #[.slice p4447 r4445.Memory.length c4448, .slice p4452 r4445.Copy.length c4453, .slice p4457 r4445.Dirty.length c4458], .agg #[.int .i64 r4461.Word, .int .i64 r4461.Value]] (by kernel_rfl) (by kernel_rfl) ?_
                          refine (c_i_StoreWord w4501 r4445 p4447 c4448 (ho4450.rd M4503 11 (by kernel_rfl)) p4452 c4453 (ho4455.rd M4503 12 (by kernel_rfl)) p4457 c4458 (ho4460.rd M4503 13 (by kernel_rfl)) r4461 hr4462).mono ?_
                          rintro e_ w4504 ⟨p4464, c4465, sg4466, p4469, c4470, sg4471, p4474, c4475, sg4476, rfl, ho4467, ho4472, ho4477, K4506⟩
                          refine ⟨_, rfl, ?_⟩
                          exact W_nil (ob_end (.tuple #[.agg #[.slice p4464 r4462.1.Memory.length c4465, .slice p4469 r4462.1.Copy.length c4470, .slice p4474 r4462.1.Dirty.length c4475], .bool r4462.2]) (sg4466 ++ (sg4471 ++ sg4476)) rfl (by kernel_rfl) ⟨p4464, c4465, sg4466, p4469, c4470, sg4471, p4474, c4475, sg4476, rfl, rfl, ho4467, ho4472, ho4477⟩ (Mem.callMid M4502 (K4506.permF (by simp))))
                        · intro g4443 f4444
                          intro v4_ hb4_
                          obtain ⟨_, p4464, c4465, _, p4469, c4470, _, p4474, c4475, _, rfl, _⟩ := hb4_
                          intro R w4507 M4508
                          refine W_run 1 [(79, .tuple #[.agg #[.slice p4464 r4462.1.Memory.length c4465, .slice p4469 r4462.1.Copy.length c4470, .slice p4474 r4462.1.Dirty.length c4475], .bool r4462.2])] w4507 (by kernel_rfl) ?_
                          exact W_nil (ob_end (.tuple #[.agg #[.slice p4464 r4462.1.Memory.length c4465, .slice p4469 r4462.1.Copy.length c4470, .slice p4474 r4462.1.Dirty.length c4475], .bool r4462.2]) [] rfl (by kernel_rfl) ⟨by kernel_rfl, rfl⟩ M4508)
                        · intro g4443 f4444
                          intro v4_ hb4_
                          obtain ⟨_, p4464, c4465, _, p4469, c4470, _, p4474, c4475, _, rfl, _⟩ := hb4_
                          intro v5_ hb5_
                          obtain ⟨hv5_, _⟩ := hb5_
                          obtain rfl : v5_ = (.tuple #[.agg #[.slice p4464 r4462.1.Memory.length c4465, .slice p4469 r4462.1.Copy.length c4470, .slice p4474 r4462.1.Dirty.length c4475], .bool r4462.2] : Value) := hv5_.trans (by kernel_rfl)
                          intro R w4511 M4512
                          refine W_run 1 [(85, .agg #[.slice p4464 r4462.1.Memory.length c4465, .slice p4469 r4462.1.Copy.length c4470, .slice p4474 r4462.1.Dirty.length c4475])] w4511 (by kernel_rfl) ?_
                          exact W_nil (ob_end (.agg #[.slice p4464 r4462.1.Memory.length c4465, .slice p4469 r4462.1.Copy.length c4470, .slice p4474 r4462.1.Dirty.length c4475]) [] rfl (by kernel_rfl) ⟨by kernel_rfl, rfl⟩ M4512)
                        · intro g4443 f4444
                          intro v4_ hb4_
                          obtain ⟨_, p4464, c4465, _, p4469, c4470, _, p4474, c4475, _, rfl, _⟩ := hb4_
                          intro v5_ hb5_
                          obtain ⟨hv5_, _⟩ := hb5_
                          obtain rfl : v5_ = (.tuple #[.agg #[.slice p4464 r4462.1.Memory.length c4465, .slice p4469 r4462.1.Copy.length c4470, .slice p4474 r4462.1.Dirty.length c4475], .bool r4462.2] : Value) := hv5_.trans (by kernel_rfl)
                          intro R w4515 M4516
                          refine W_run 1 [(86, .bool r4462.2)] w4515 (by kernel_rfl) ?_
                          exact W_nil (ob_end (.bool r4462.2) [] rfl (by kernel_rfl) ⟨by kernel_rfl, rfl⟩ M4516)
                        · intro g4443 f4444
                          intro R w4519 M4520
                          refine W_new (fun b => .pointer (some ⟨b, 0, none⟩)) (.cells ⟨[.slice none 0 0, .slice none 0 0, .slice none 0 0]⟩ 28 (0, 0)) M4520 rfl (by kernel_rfl) (by kernel_rfl) ?_
                          intro b4482 w4521 M4522
                          exact W_nil (ob_end (.pointer (some ⟨b4482, 0, none⟩)) [(b4482, .cells ⟨[.slice none 0 0, .slice none 0 0, .slice none 0 0]⟩ 28 (0, 0))] rfl (by kernel_rfl) ⟨b4482, rfl, rfl⟩ (Mem.mid M4522))
                        · intro g4443 f4444
                          intro v4_ hb4_
                          obtain ⟨_, p4464, c4465, _, p4469, c4470, _, p4474, c4475, _, rfl, _⟩ := hb4_
                          intro v6_ hb6_
                          obtain ⟨hv6_, _⟩ := hb6_
                          obtain rfl : v6_ = (.agg #[.slice p4464 r4462.1.Memory.length c4465, .slice p4469 r4462.1.Copy.length c4470, .slice p4474 r4462.1.Dirty.length c4475] : Value) := hv6_.trans (by kernel_rfl)
                          intro v8_ hb8_
                          obtain ⟨b4482, rfl, hs8_⟩ := hb8_
                          intro R w4523 M4524
                          have M4525 : Mem [] w w4523 ([[(b3506, .cells ⟨[.slice p3493 x3491.Memory.length c3494, .slice p3497 x3491.Copy.length c3498, .slice p3501 x3491.Dirty.length c3502]⟩ 25 (0, 0))], [(b3510, .cells ⟨[.int .i64 x3504.Word, .int .i64 x3504.Value]⟩ 44 (0, 0))], sg3783, sg3788, sg3793, [(b3799, .cells ⟨[.slice p3781 r3779.1.Memory.length c3782, .slice p3786 r3779.1.Copy.length c3787, .slice p3791 r3779.1.Dirty.length c3792]⟩ 28 (0, 0))], [(b4289, .cells ⟨[.slice p4271 r4423.2.1.length c4272, .slice p4276 r4423.2.2.1.length c4277, .slice p4281 r4423.2.2.2.length c4282]⟩ 28 (0, 0))], sg4424, sg4427, sg4430] ++ ([[]] ++ ([(g4443 8)] ++ ([] ++ R)))) := M4524
                          rw [hs8_] at M4525
                          replace M4525 : Mem [] w w4523 ([[(b3506, .cells ⟨[.slice p3493 x3491.Memory.length c3494, .slice p3497 x3491.Copy.length c3498, .slice p3501 x3491.Dirty.length c3502]⟩ 25 (0, 0))], [(b3510, .cells ⟨[.int .i64 x3504.Word, .int .i64 x3504.Value]⟩ 44 (0, 0))], sg3783, sg3788, sg3793, [(b3799, .cells ⟨[.slice p3781 r3779.1.Memory.length c3782, .slice p3786 r3779.1.Copy.length c3787, .slice p3791 r3779.1.Dirty.length c3792]⟩ 28 (0, 0))], [(b4289, .cells ⟨[.slice p4271 r4423.2.1.length c4272, .slice p4276 r4423.2.2.1.length c4277, .slice p4281 r4423.2.2.2.length c4282]⟩ 28 (0, 0))], sg4424, sg4427, sg4430] ++ ([[]] ++ ([[(b4482, .cells ⟨[.slice none 0 0, .slice none 0 0, .slice none 0 0]⟩ 28 (0, 0))]] ++ ([] ++ R)))) := M4525.permF (by simp)
                          refine W_store _ _ _ true 3 b4482 0 [.slice none 0 0, .slice none 0 0, .slice none 0 0] 28 (.agg #[.slice p4464 r4462.1.Memory.length c4465, .slice p4469 r4462.1.Copy.length c4470, .slice p4474 r4462.1.Dirty.length c4475]) 11 [.slice p4464 r4462.1.Memory.length c4465, .slice p4469 r4462.1.Copy.length c4470, .slice p4474 r4462.1.Dirty.length c4475] M4525 (by kernel_rfl) rfl (by kernel_rfl) (by kernel_rfl) (by kernel_rfl) (by kernel_rfl) (by kernel_rfl) (by kernel_rfl) (by kernel_rfl) (by kernel_rfl) ?_
                          intro w4526 M4527
                          exact W_nil (ob_none [(b4482, .cells ⟨[.slice p4464 r4462.1.Memory.length c4465, .slice p4469 r4462.1.Copy.length c4470, .slice p4474 r4462.1.Dirty.length c4475]⟩ 28 (0, 0))] rfl ⟨rfl, by kernel_rfl⟩ (Mem.takeOver M4527))
                        · intro g4443 f4444
                          intro v8_ hb8_
                          obtain ⟨_, b4482, rfl, hs8_⟩ := hb8_
                          intro v1_ hb1_
                          obtain ⟨p4447, c4448, sg4449, p4452, c4453, sg4454, p4457, c4458, sg4459, rfl, hs1_, ho4450, ho4455, ho4460⟩ := hb1_
                          intro v4_ hb4_
                          obtain ⟨p4464, c4465, sg4466, p4469, c4470, sg4471, p4474, c4475, sg4476, rfl, hs4_, ho4467, ho4472, ho4477⟩ := hb4_
                          intro v7_ hb7_
                          obtain ⟨rfl, _⟩ := hb7_
                          intro v9_ hb9_
                          obtain ⟨rfl, hs9_⟩ := hb9_
                          replace hs9_ := hs9_.trans (show _ = [(b4482, .cells ⟨[.slice p4464 r4462.1.Memory.length c4465, .slice p4469 r4462.1.Copy.length c4470, .slice p4474 r4462.1.Dirty.length c4475]⟩ 28 (0, 0))] by kernel_rfl)
                          intro w4528 M4529
                          have M4530 : Mem [] w w4528 [[(b3506, .cells ⟨[.slice p3493 x3491.Memory.length c3494, .slice p3497 x3491.Copy.length c3498, .slice p3501 x3491.Dirty.length c3502]⟩ 25 (0, 0))], [(b3510, .cells ⟨[.int .i64 x3504.Word, .int .i64 x3504.Value]⟩ 44 (0, 0))], sg3783, sg3788, sg3793, [(b3799, .cells ⟨[.slice p3781 r3779.1.Memory.length c3782, .slice p3786 r3779.1.Copy.length c3787, .slice p3791 r3779.1.Dirty.length c3792]⟩ 28 (0, 0))], [(b4289, .cells ⟨[.slice p4271 r4423.2.1.length c4272, .slice p4276 r4423.2.2.1.length c4277, .slice p4281 r4423.2.2.2.length c4282]⟩ 28 (0, 0))], sg4424, sg4427, sg4430, (g4443 1), (g4443 4), (g4443 9)] := M4529
                          rw [hs1_] at M4530
                          rw [hs4_] at M4530
                          rw [hs9_] at M4530
                          replace M4530 : Mem [] w w4528 [[(b3506, .cells ⟨[.slice p3493 x3491.Memory.length c3494, .slice p3497 x3491.Copy.length c3498, .slice p3501 x3491.Dirty.length c3502]⟩ 25 (0, 0))], [(b3510, .cells ⟨[.int .i64 x3504.Word, .int .i64 x3504.Value]⟩ 44 (0, 0))], sg3783, sg3788, sg3793, [(b3799, .cells ⟨[.slice p3781 r3779.1.Memory.length c3782, .slice p3786 r3779.1.Copy.length c3787, .slice p3791 r3779.1.Dirty.length c3792]⟩ 28 (0, 0))], [(b4289, .cells ⟨[.slice p4271 r4423.2.1.length c4272, .slice p4276 r4423.2.2.1.length c4277, .slice p4281 r4423.2.2.2.length c4282]⟩ 28 (0, 0))], sg4424, sg4427, sg4430, sg4449, sg4454, sg4459, sg4466, sg4471, sg4476, [(b4482, .cells ⟨[.slice p4464 r4462.1.Memory.length c4465, .slice p4469 r4462.1.Copy.length c4470, .slice p4474 r4462.1.Dirty.length c4475]⟩ 28 (0, 0))]] := M4530.permF (by simp)
                          refine W_run 1 [(6, .pointer (some ⟨b3799, 0, none⟩)), (7, .bool r3779.2), (9, .pointer (some ⟨b4289, 0, none⟩)), (12, .int .i64 r4423.1), (14, .pointer (some ⟨b4482, 0, none⟩)), (15, .bool r4462.2)] w4528 (by kernel_rfl) ?_
                          refine W_nil ?_
                          refine N_then ?_
                          refine G_seq ?_
                          refine G_seq ?_
                          obtain ⟨o4536, ho4537, hm4538⟩ := gx_bind hm
                          refine G_meet (fun a w' => Mem [] w w' [[(b4289, .cells ⟨[.slice p4271 r4423.2.1.length c4272, .slice p4276 r4423.2.2.1.length c4277, .slice p4281 r4423.2.2.2.length c4282]⟩ 28 (0, 0))], sg4424, sg4427, sg4430] ∧ Sat Try.f7.ntmps [(9, .pointer (some ⟨b4289, 0, none⟩)), (12, .int .i64 r4423.1), (95, .bool o4536)] a) ?_ ?_
                          · have hm := ho4537
                            refine G_region ?_
                            refine W_val (.agg #[.slice p4464 r4462.1.Memory.length c4465, .slice p4469 r4462.1.Copy.length c4470, .slice p4474 r4462.1.Dirty.length c4475]) w4528 (by kernel_rfl) (E_load (e := 28) (fr := (0, 0)) _ _ true 3 b4482 0 [.slice p4464 r4462.1.Memory.length c4465, .slice p4469 r4462.1.Copy.length c4470, .slice p4474 r4462.1.Dirty.length c4475] (.agg #[.slice p4464 r4462.1.Memory.length c4465, .slice p4469 r4462.1.Copy.length c4470, .slice p4474 r4462.1.Dirty.length c4475]) rfl (by kernel_rfl) (by kernel_rfl) (by kernel_rfl) (M4530.blk 16 (b := b4482) (o := .cells ⟨[.slice p4464 r4462.1.Memory.length c4465, .slice p4469 r4462.1.Copy.length c4470, .slice p4474 r4462.1.Dirty.length c4475]⟩ 28 (0, 0)) (by kernel_rfl))) ?_
                            refine W_val (.agg #[.slice p3781 r3779.1.Memory.length c3782, .slice p3786 r3779.1.Copy.length c3787, .slice p3791 r3779.1.Dirty.length c3792]) w4528 (by kernel_rfl) (E_load (e := 28) (fr := (0, 0)) _ _ true 3 b3799 0 [.slice p3781 r3779.1.Memory.length c3782, .slice p3786 r3779.1.Copy.length c3787, .slice p3791 r3779.1.Dirty.length c3792] (.agg #[.slice p3781 r3779.1.Memory.length c3782, .slice p3786 r3779.1.Copy.length c3787, .slice p3791 r3779.1.Dirty.length c3792]) rfl (by kernel_rfl) (by kernel_rfl) (by kernel_rfl) (M4530.blk 5 (b := b3799) (o := .cells ⟨[.slice p3781 r3779.1.Memory.length c3782, .slice p3786 r3779.1.Copy.length c3787, .slice p3791 r3779.1.Dirty.length c3792]⟩ 28 (0, 0)) (by kernel_rfl))) ?_
                            obtain ⟨r4539, hr4539, hm⟩ := gx_bind hm
                            refine W_call 17 #[.agg #[.slice p4464 r4462.1.Memory.length c4465, .slice p4469 r4462.1.Copy.length c4470, .slice p4474 r4462.1.Dirty.length c4475], .agg #[.slice p3781 r3779.1.Memory.length c3782, .slice p3786 r3779.1.Copy.length c3787, .slice p3791 r3779.1.Dirty.length c3792]] (by kernel_rfl) (by kernel_rfl) ?_
                            refine (c_l_eqCopying w4528 r4462.1 p4464 c4465 (ho4467.rd M4530 13 (by kernel_rfl)) p4469 c4470 (ho4472.rd M4530 14 (by kernel_rfl)) p4474 c4475 (ho4477.rd M4530 15 (by kernel_rfl)) r3779.1 p3781 c3782 (ho3784.rd M4530 2 (by kernel_rfl)) p3786 c3787 (ho3789.rd M4530 3 (by kernel_rfl)) p3791 c3792 (ho3794.rd M4530 4 (by kernel_rfl)) hr4539).mono ?_
                            rintro e_ w4540 ⟨rfl, K4541⟩
                            have M4542 := M4530.call0 K4541
                            refine ⟨_, rfl, ?_⟩
                            refine W_run 2 [(7, .bool r3779.2), (9, .pointer (some ⟨b4289, 0, none⟩)), (12, .int .i64 r4423.1), (15, .bool r4462.2), (91, .bool (!r4539))] w4540 (by kernel_rfl) ?_
                            rcases gx_bif hm with ⟨hc4543, hm⟩ | ⟨hc4543, hm⟩
                            · refine W_known 91 true (by kernel_rfl) hc4543 ?_
                              refine W_run 4 [(9, .pointer (some ⟨b4289, 0, none⟩)), (12, .int .i64 r4423.1), (95, .bool true)] w4540 (by kernel_rfl) ?_
                              refine W_nil ?_
                              obtain rfl := Option.some.inj hm
                              exact N_meet fun a ha => ⟨M4542.pick [6, 7, 8, 9] (by kernel_rfl), ha.sub (by kernel_rfl)⟩
                            · refine W_known 91 false (by kernel_rfl) hc4543 ?_
                              refine W_run 4 [(9, .pointer (some ⟨b4289, 0, none⟩)), (12, .int .i64 r4423.1), (95, .bool (!(r4462.2 == r3779.2)))] w4540 (by kernel_rfl) ?_
                              refine W_nil ?_
                              obtain rfl := Option.some.inj hm
                              exact N_meet fun a ha => ⟨M4542.pick [6, 7, 8, 9] (by kernel_rfl), ha.sub (by kernel_rfl)⟩
                          · intro a4546 w4544 ⟨M4545, hS4547⟩
                            refine N_use hS4547 ?_
                            have hm := hm4538
                            refine N_then ?_
                            rcases gx_bif hm with ⟨hc4548, hm⟩ | ⟨hc4548, hm⟩
                            · refine G_cond_t (b := o4536) hc4548 (by kernel_rfl) ?_
                              refine G_seq ?_
                              refine G_region ?_
                              refine W_run 1 [(4, .bool false)] w4544 (by kernel_rfl) ?_
                              refine W_nil ?_
                              refine N_then ?_
                              refine G_ret ?_
                              refine N_then_ret ?_
                              obtain rfl := Option.some.inj hm
                              refine N_ret [.bool false] (RVs_cons (RV_tmp (by kernel_rfl)) RVs_nil) ?_
                              exact ⟨rfl, M4545.pick [] (by kernel_rfl)⟩
                            · refine G_cond_f (b := o4536) hc4548 (by kernel_rfl) ?_
                              refine G_skip ?_
                              refine N_then ?_
                              refine G_seq ?_
                              refine G_region ?_
                              refine W_run 1 [(9, .pointer (some ⟨b4289, 0, none⟩)), (12, .int .i64 r4423.1), (13, .int .i64 1)] w4544 (by kernel_rfl) ?_
                              refine W_nil ?_
                              refine N_then ?_
                              refine G_seq ?_
                              refine G_region ?_
                              refine W_val (.agg #[.slice p4271 r4423.2.1.length c4272, .slice p4276 r4423.2.2.1.length c4277, .slice p4281 r4423.2.2.2.length c4282]) w4544 (by kernel_rfl) (E_load (e := 28) (fr := (0, 0)) _ _ true 3 b4289 0 [.slice p4271 r4423.2.1.length c4272, .slice p4276 r4423.2.2.1.length c4277, .slice p4281 r4423.2.2.2.length c4282] (.agg #[.slice p4271 r4423.2.1.length c4272, .slice p4276 r4423.2.2.1.length c4277, .slice p4281 r4423.2.2.2.length c4282]) rfl (by kernel_rfl) (by kernel_rfl) (by kernel_rfl) (M4545.blk 0 (b := b4289) (o := .cells ⟨[.slice p4271 r4423.2.1.length c4272, .slice p4276 r4423.2.2.1.length c4277, .slice p4281 r4423.2.2.2.length c4282]⟩ 28 (0, 0)) (by kernel_rfl))) ?_
                              refine W_run 1 [(12, .int .i64 r4423.1), (13, .int .i64 1), (96, .agg #[.slice p4271 r4423.2.1.length c4272, .slice p4276 r4423.2.2.1.length c4277, .slice p4281 r4423.2.2.2.length c4282]), (97, .int .i64 1)] w4544 (by kernel_rfl) ?_
                              obtain ⟨r4549, hr4549, hm⟩ := gx_bind hm
                              refine W_call 24 #[.agg #[.slice p4271 r4423.2.1.length c4272, .slice p4276 r4423.2.2.1.length c4277, .slice p4281 r4423.2.2.2.length c4282], .int .i64 1] (by kernel_rfl) (by kernel_rfl) ?_
                              refine (c_l_heldCopying w4544 (⟨r4423.2.1, r4423.2.2.1, r4423.2.2.2⟩ : Copying) p4271 c4272 (ho4425.rd M4545 1 (by kernel_rfl)) p4276 c4277 (ho4428.rd M4545 2 (by kernel_rfl)) p4281 c4282 (ho4431.rd M4545 3 (by kernel_rfl)) 1 hr4549).mono ?_
                              rintro e_ w4550 ⟨rfl, K4551⟩
                              have M4552 := M4545.call0 K4551
                              refine ⟨_, rfl, ?_⟩
                              refine W_run 1 [(12, .int .i64 r4423.1), (13, .int .i64 r4549)] w4550 (by kernel_rfl) ?_
                              refine W_nil ?_
                              refine N_then ?_
                              refine G_seq ?_
                              refine G_seq ?_
                              refine G_region ?_
                              refine W_run 2 [(12, .int .i64 r4423.1), (13, .int .i64 r4549), (100, .bool (decide (r4549 < 0)))] w4550 (by kernel_rfl) ?_
                              refine W_nil ?_
                              refine N_then ?_
                              rcases gx_bif hm with ⟨hc4553, hm⟩ | ⟨hc4553, hm⟩
                              · refine G_cond_t (b := (decide (r4549 < 0))) hc4553 (by kernel_rfl) ?_
                                refine G_seq ?_
                                refine G_region ?_
                                refine W_run 1 [(4, .bool false)] w4550 (by kernel_rfl) ?_
                                refine W_nil ?_
                                refine N_then ?_
                                refine G_ret ?_
                                refine N_then_ret ?_
                                obtain rfl := Option.some.inj hm
                                refine N_ret [.bool false] (RVs_cons (RV_tmp (by kernel_rfl)) RVs_nil) ?_
                                exact ⟨rfl, M4552.pick [] (by kernel_rfl)⟩
                              · refine G_cond_f (b := (decide (r4549 < 0))) hc4553 (by kernel_rfl) ?_
                                refine G_skip ?_
                                refine N_then ?_
                                refine G_seq ?_
                                refine G_seq ?_
                                refine G_region ?_
                                refine W_run 3 [(103, .bool (r4549 != r4423.1))] w4550 (by kernel_rfl) ?_
                                refine W_nil ?_
                                refine N_then ?_
                                rcases gx_bif hm with ⟨hc4554, hm⟩ | ⟨hc4554, hm⟩
                                · refine G_cond_t (b := (r4549 != r4423.1)) hc4554 (by kernel_rfl) ?_
                                  refine G_seq ?_
                                  refine G_region ?_
                                  refine W_run 1 [(4, .bool false)] w4550 (by kernel_rfl) ?_
                                  refine W_nil ?_
                                  refine N_then ?_
                                  refine G_ret ?_
                                  refine N_then_ret ?_
                                  obtain rfl := Option.some.inj hm
                                  refine N_ret [.bool false] (RVs_cons (RV_tmp (by kernel_rfl)) RVs_nil) ?_
                                  exact ⟨rfl, M4552.pick [] (by kernel_rfl)⟩
                                · refine G_cond_f (b := (r4549 != r4423.1)) hc4554 (by kernel_rfl) ?_
                                  refine G_skip ?_
                                  refine N_then ?_
                                  refine G_seq ?_
                                  refine G_region ?_
                                  refine W_run 1 [(4, .bool true)] w4550 (by kernel_rfl) ?_
                                  refine W_nil ?_
                                  refine N_then ?_
                                  refine G_ret ?_
                                  obtain rfl := Option.some.inj hm
                                  refine N_ret [.bool true] (RVs_cons (RV_tmp (by kernel_rfl)) RVs_nil) ?_
                                  exact ⟨rfl, M4552.pick [] (by kernel_rfl)⟩
theorem c_s_CopyRound (w : World) (x4597 : Copying) (p4599 : Option Addr) (c4600 : Nat) (h4601 : rdS encI w x4597.Memory p4599 c4600) (p4603 : Option Addr) (c4604 : Nat) (h4605 : rdS encI w x4597.Copy p4603 c4604) (p4607 : Option Addr) (c4608 : Nat) (h4609 : rdS encB w x4597.Dirty p4607 c4608) (x4610 : Int) {r : Copying × Int × Bool} (hm : M.s_CopyRound x4597 x4610 = some r) :
    Calls Try.prog 33 #[.agg #[.slice p4599 x4597.Memory.length c4600, .slice p4603 x4597.Copy.length c4604, .slice p4607 x4597.Dirty.length c4608], .int .i64 x4610] w fun e w' => ∃ (p4612 : Option Addr) (c4613 : Nat) (sg4614 : Seg), ∃ (p4616 : Option Addr) (c4617 : Nat) (sg4618 : Seg), ∃ (p4620 : Option Addr) (c4621 : Nat) (sg4622 : Seg), e = .returned (.tuple #[.agg #[.slice p4612 r.1.Memory.length c4613, .slice p4616 r.1.Copy.length c4617, .slice p4620 r.1.Dirty.length c4621], .int .i64 r.2.1, .bool r.2.2]) ∧ ownS encI r.1.Memory p4612 c4613 sg4614 ∧ ownS encI r.1.Copy p4616 c4617 sg4618 ∧ ownS encB r.1.Dirty p4620 c4621 sg4622 ∧ Mem [] w w' [sg4614, sg4618, sg4622] := by
  unfold M.s_CopyRound at hm
  refine C_enter Try.func33 rfl (by kernel_rfl) ?_
  have M0 := Mem.refl [] w
  refine G_seq ?_
  refine G_region ?_
  refine W_new (fun b => .pointer (some ⟨b, 0, none⟩)) (.cells ⟨[.slice p4599 x4597.Memory.length c4600, .slice p4603 x4597.Copy.length c4604, .slice p4607 x4597.Dirty.length c4608]⟩ 28 (0, 0)) M0 rfl (by kernel_rfl) (by kernel_rfl) ?_
  intro b4624 w4625 M4626
  refine W_new (fun b => .pointer (some ⟨b, 0, none⟩)) (.cells ⟨[.slice none 0 0, .slice none 0 0, .slice none 0 0]⟩ 28 (0, 0)) M4626 rfl (by kernel_rfl) (by kernel_rfl) ?_
  intro b4631 w4632 M4633
  refine W_run 2 [(1, .int .i64 x4610), (2, .pointer (some ⟨b4624, 0, none⟩)), (4, .pointer (some ⟨b4631, 0, none⟩))] w4632 (by kernel_rfl) ?_
  refine W_nil ?_
  refine N_then ?_
  refine G_seq ?_
  refine G_seq ?_
  obtain ⟨o4643, ho4644, hm4645⟩ := gx_bind hm
  refine G_meet (fun a w' => Mem [] w w' [[(b4624, .cells ⟨[.slice p4599 x4597.Memory.length c4600, .slice p4603 x4597.Copy.length c4604, .slice p4607 x4597.Dirty.length c4608]⟩ 28 (0, 0))], [(b4631, .cells ⟨[.slice none 0 0, .slice none 0 0, .slice none 0 0]⟩ 28 (0, 0))]] ∧ Sat Try.f33.ntmps [(1, .int .i64 x4610), (2, .pointer (some ⟨b4624, 0, none⟩)), (4, .pointer (some ⟨b4631, 0, none⟩)), (16, .bool o4643)] a) ?_ ?_
  · have hm := ho4644
    refine G_region ?_
    refine W_val (.agg #[.slice p4599 x4597.Memory.length c4600, .slice p4603 x4597.Copy.length c4604, .slice p4607 x4597.Dirty.length c4608]) w4632 (by kernel_rfl) (E_load (e := 28) (fr := (0, 0)) _ _ true 3 b4624 0 [.slice p4599 x4597.Memory.length c4600, .slice p4603 x4597.Copy.length c4604, .slice p4607 x4597.Dirty.length c4608] (.agg #[.slice p4599 x4597.Memory.length c4600, .slice p4603 x4597.Copy.length c4604, .slice p4607 x4597.Dirty.length c4608]) rfl (by kernel_rfl) (by kernel_rfl) (by kernel_rfl) (M4633.blk 0 (b := b4624) (o := .cells ⟨[.slice p4599 x4597.Memory.length c4600, .slice p4603 x4597.Copy.length c4604, .slice p4607 x4597.Dirty.length c4608]⟩ 28 (0, 0)) (by kernel_rfl))) ?_
    obtain ⟨r4646, hr4646, hm⟩ := gx_bind hm
    refine W_call 56 #[.agg #[.slice p4599 x4597.Memory.length c4600, .slice p4603 x4597.Copy.length c4604, .slice p4607 x4597.Dirty.length c4608]] (by kernel_rfl) (by kernel_rfl) ?_
    refine (c_s_l19Good w4632 x4597 p4599 c4600 (h4601.mem0 M4633) p4603 c4604 (h4605.mem0 M4633) p4607 c4608 (h4609.mem0 M4633) hr4646).mono ?_
    rintro e_ w4647 ⟨rfl, K4648⟩
    have M4649 := M4633.call0 K4648
    refine ⟨_, rfl, ?_⟩
    refine W_run 2 [(1, .int .i64 x4610), (2, .pointer (some ⟨b4624, 0, none⟩)), (4, .pointer (some ⟨b4631, 0, none⟩)), (12, .bool (!r4646))] w4647 (by kernel_rfl) ?_
    rcases gx_bif hm with ⟨hc4650, hm⟩ | ⟨hc4650, hm⟩
    · refine W_known 12 true (by kernel_rfl) hc4650 ?_
      refine W_run 4 [(1, .int .i64 x4610), (2, .pointer (some ⟨b4624, 0, none⟩)), (4, .pointer (some ⟨b4631, 0, none⟩)), (16, .bool true)] w4647 (by kernel_rfl) ?_
      refine W_nil ?_
      obtain rfl := Option.some.inj hm
      exact N_meet fun a ha => ⟨M4649.pick [0, 1] (by kernel_rfl), ha.sub (by kernel_rfl)⟩
    · refine W_known 12 false (by kernel_rfl) hc4650 ?_
      refine W_run 1 [(1, .int .i64 x4610), (2, .pointer (some ⟨b4624, 0, none⟩)), (4, .pointer (some ⟨b4631, 0, none⟩)), (12, .bool false), (13, .int .i64 x4610)] w4647 (by kernel_rfl) ?_
      obtain ⟨r4651, hr4651, hm⟩ := gx_bind hm
      refine W_call 73 #[.int .i64 x4610, .int .i64 0, .int .i64 12] (by kernel_rfl) (by kernel_rfl) ?_
      refine (c_s_l1In w4647 x4610 0 12 hr4651).mono ?_
      rintro e_ w4652 ⟨rfl, K4653⟩
      have M4654 := M4649.call0 K4653
      refine ⟨_, rfl, ?_⟩
      refine W_run 2 [(1, .int .i64 x4610), (2, .pointer (some ⟨b4624, 0, none⟩)), (4, .pointer (some ⟨b4631, 0, none⟩)), (16, .bool (!r4651))] w4652 (by kernel_rfl) ?_
      refine W_nil ?_
      obtain rfl := Option.some.inj hm
      exact N_meet fun a ha => ⟨M4654.pick [0, 1] (by kernel_rfl), ha.sub (by kernel_rfl)⟩
  · intro a4657 w4655 ⟨M4656, hS4658⟩
    refine N_use hS4658 ?_
    have hm := hm4645
    refine N_then ?_
    rcases gx_bif hm with ⟨hc4659, hm⟩ | ⟨hc4659, hm⟩
    · refine G_cond_t (b := o4643) hc4659 (by kernel_rfl) ?_
      refine G_seq ?_
      refine G_region ?_
      refine W_run 1 [(4, .pointer (some ⟨b4631, 0, none⟩)), (17, .agg #[.slice none 0 0, .slice none 0 0, .slice none 0 0])] w4655 (by kernel_rfl) ?_
      refine W_store _ _ _ true 3 b4631 0 [.slice none 0 0, .slice none 0 0, .slice none 0 0] 28 (.agg #[.slice none 0 0, .slice none 0 0, .slice none 0 0]) 1 [.slice none 0 0, .slice none 0 0, .slice none 0 0] M4656 (by kernel_rfl) rfl (by kernel_rfl) (by kernel_rfl) (by kernel_rfl) (by kernel_rfl) (by kernel_rfl) (by kernel_rfl) (by kernel_rfl) (by kernel_rfl) ?_
      intro w4663 M4664
      refine W_run 2 [(4, .pointer (some ⟨b4631, 0, none⟩)), (5, .int .i64 0), (6, .bool false)] w4663 (by kernel_rfl) ?_
      refine W_nil ?_
      refine N_then ?_
      refine G_ret ?_
      refine N_then_ret ?_
      obtain rfl := Option.some.inj hm
      refine N_ret [.agg #[.slice none 0 0, .slice none 0 0, .slice none 0 0], .int .i64 0, .bool false] (RVs_cons (RV_cell (g := true) (k := 3) (b := b4631) (off := 0) (cs := [.slice none 0 0, .slice none 0 0, .slice none 0 0]) (e := 28) (fr := (0, 0)) (v := .agg #[.slice none 0 0, .slice none 0 0, .slice none 0 0]) (M4664.blk 1 (b := b4631) (o := .cells ⟨[.slice none 0 0, .slice none 0 0, .slice none 0 0]⟩ 28 (0, 0)) (by kernel_rfl)) (by kernel_rfl) (by kernel_rfl) (by kernel_rfl)) (RVs_cons (RV_tmp (by kernel_rfl)) (RVs_cons (RV_tmp (by kernel_rfl)) RVs_nil))) ?_
      exact ⟨none, 0, [], none, 0, [], none, 0, [], rfl, ownS_nil, ownS_nil, ownS_nil, M4664.pick [100000, 100001, 100002] (by kernel_rfl)⟩
    · refine G_cond_f (b := o4643) hc4659 (by kernel_rfl) ?_
      refine G_skip ?_
      refine N_then ?_
      refine G_seq ?_
      refine G_region ?_
      refine W_val (.agg #[.slice p4599 x4597.Memory.length c4600, .slice p4603 x4597.Copy.length c4604, .slice p4607 x4597.Dirty.length c4608]) w4655 (by kernel_rfl) (E_load (e := 28) (fr := (0, 0)) _ _ true 3 b4624 0 [.slice p4599 x4597.Memory.length c4600, .slice p4603 x4597.Copy.length c4604, .slice p4607 x4597.Dirty.length c4608] (.agg #[.slice p4599 x4597.Memory.length c4600, .slice p4603 x4597.Copy.length c4604, .slice p4607 x4597.Dirty.length c4608]) rfl (by kernel_rfl) (by kernel_rfl) (by kernel_rfl) (M4656.blk 0 (b := b4624) (o := .cells ⟨[.slice p4599 x4597.Memory.length c4600, .slice p4603 x4597.Copy.length c4604, .slice p4607 x4597.Dirty.length c4608]⟩ 28 (0, 0)) (by kernel_rfl))) ?_
      refine W_run 1 [(4, .pointer (some ⟨b4631, 0, none⟩)), (19, .agg #[.slice p4599 x4597.Memory.length c4600, .slice p4603 x4597.Copy.length c4604, .slice p4607 x4597.Dirty.length c4608]), (20, .int .i64 x4610)] w4655 (by kernel_rfl) ?_
      obtain ⟨r4665, hr4665, hm⟩ := gx_bind hm
      refine W_call 67 #[.agg #[.slice p4599 x4597.Memory.length c4600, .slice p4603 x4597.Copy.length c4604, .slice p4607 x4597.Dirty.length c4608], .int .i64 x4610] (by kernel_rfl) (by kernel_rfl) ?_
      refine (c_s_l19Round w4655 x4597 p4599 c4600 (h4601.mem0 M4656) p4603 c4604 (h4605.mem0 M4656) p4607 c4608 (h4609.mem0 M4656) x4610 hr4665).mono ?_
      rintro e_ w4681 ⟨p4667, c4668, sg4669, p4672, c4673, sg4674, p4677, c4678, sg4679, rfl, ho4670, ho4675, ho4680, K4682⟩
      have M4683 := M4656.call K4682
      refine ⟨_, rfl, ?_⟩
      refine W_run 3 [(4, .pointer (some ⟨b4631, 0, none⟩)), (22, .agg #[.slice p4667 r4665.1.Memory.length c4668, .slice p4672 r4665.1.Copy.length c4673, .slice p4677 r4665.1.Dirty.length c4678]), (23, .int .i64 r4665.2)] w4681 (by kernel_rfl) ?_
      refine W_new (fun b => .pointer (some ⟨b, 0, none⟩)) (.cells ⟨[.slice none 0 0, .slice none 0 0, .slice none 0 0]⟩ 28 (0, 0)) M4683 rfl (by kernel_rfl) (by kernel_rfl) ?_
      intro b4688 w4689 M4690
      refine W_store _ _ _ true 3 b4688 0 [.slice none 0 0, .slice none 0 0, .slice none 0 0] 28 (.agg #[.slice p4667 r4665.1.Memory.length c4668, .slice p4672 r4665.1.Copy.length c4673, .slice p4677 r4665.1.Dirty.length c4678]) 5 [.slice p4667 r4665.1.Memory.length c4668, .slice p4672 r4665.1.Copy.length c4673, .slice p4677 r4665.1.Dirty.length c4678] M4690 (by kernel_rfl) rfl (by kernel_rfl) (by kernel_rfl) (by kernel_rfl) (by kernel_rfl) (by kernel_rfl) (by kernel_rfl) (by kernel_rfl) (by kernel_rfl) ?_
      intro w4691 M4692
      refine W_run 1 [(4, .pointer (some ⟨b4631, 0, none⟩)), (7, .pointer (some ⟨b4688, 0, none⟩)), (8, .int .i64 r4665.2)] w4691 (by kernel_rfl) ?_
      refine W_nil ?_
      refine N_then ?_
      refine G_seq ?_
      refine G_region ?_
      refine W_val (.agg #[.slice p4667 r4665.1.Memory.length c4668, .slice p4672 r4665.1.Copy.length c4673, .slice p4677 r4665.1.Dirty.length c4678]) w4691 (by kernel_rfl) (E_load (e := 28) (fr := (0, 0)) _ _ true 3 b4688 0 [.slice p4667 r4665.1.Memory.length c4668, .slice p4672 r4665.1.Copy.length c4673, .slice p4677 r4665.1.Dirty.length c4678] (.agg #[.slice p4667 r4665.1.Memory.length c4668, .slice p4672 r4665.1.Copy.length c4673, .slice p4677 r4665.1.Dirty.length c4678]) rfl (by kernel_rfl) (by kernel_rfl) (by kernel_rfl) (M4692.blk 5 (b := b4688) (o := .cells ⟨[.slice p4667 r4665.1.Memory.length c4668, .slice p4672 r4665.1.Copy.length c4673, .slice p4677 r4665.1.Dirty.length c4678]⟩ 28 (0, 0)) (by kernel_rfl))) ?_
      refine W_run 1 [(4, .pointer (some ⟨b4631, 0, none⟩)), (24, .agg #[.slice p4667 r4665.1.Memory.length c4668, .slice p4672 r4665.1.Copy.length c4673, .slice p4677 r4665.1.Dirty.length c4678]), (25, .int .i64 r4665.2)] w4691 (by kernel_rfl) ?_
      refine W_store _ _ _ true 3 b4631 0 [.slice none 0 0, .slice none 0 0, .slice none 0 0] 28 (.agg #[.slice p4667 r4665.1.Memory.length c4668, .slice p4672 r4665.1.Copy.length c4673, .slice p4677 r4665.1.Dirty.length c4678]) 1 [.slice p4667 r4665.1.Memory.length c4668, .slice p4672 r4665.1.Copy.length c4673, .slice p4677 r4665.1.Dirty.length c4678] M4692 (by kernel_rfl) rfl (by kernel_rfl) (by kernel_rfl) (by kernel_rfl) (by kernel_rfl) (by kernel_rfl) (by kernel_rfl) (by kernel_rfl) (by kernel_rfl) ?_
      intro w4693 M4694
      refine W_run 2 [(4, .pointer (some ⟨b4631, 0, none⟩)), (5, .int .i64 r4665.2), (6, .bool true)] w4693 (by kernel_rfl) ?_
      refine W_nil ?_
      refine N_then ?_
      refine G_ret ?_
      obtain rfl := Option.some.inj hm
      refine N_ret [.agg #[.slice p4667 r4665.1.Memory.length c4668, .slice p4672 r4665.1.Copy.length c4673, .slice p4677 r4665.1.Dirty.length c4678], .int .i64 r4665.2, .bool true] (RVs_cons (RV_cell (g := true) (k := 3) (b := b4631) (off := 0) (cs := [.slice p4667 r4665.1.Memory.length c4668, .slice p4672 r4665.1.Copy.length c4673, .slice p4677 r4665.1.Dirty.length c4678]) (e := 28) (fr := (0, 0)) (v := .agg #[.slice p4667 r4665.1.Memory.length c4668, .slice p4672 r4665.1.Copy.length c4673, .slice p4677 r4665.1.Dirty.length c4678]) (M4694.blk 1 (b := b4631) (o := .cells ⟨[.slice p4667 r4665.1.Memory.length c4668, .slice p4672 r4665.1.Copy.length c4673, .slice p4677 r4665.1.Dirty.length c4678]⟩ 28 (0, 0)) (by kernel_rfl)) (by kernel_rfl) (by kernel_rfl) (by kernel_rfl)) (RVs_cons (RV_tmp (by kernel_rfl)) (RVs_cons (RV_tmp (by kernel_rfl)) RVs_nil))) ?_
      exact ⟨p4667, c4668, sg4669, p4672, c4673, sg4674, p4677, c4678, sg4679, rfl, ho4670, ho4675, ho4680, M4694.pick [2, 3, 4] (by kernel_rfl)⟩
end Go.Proofs.Ytjbblcdajdpfkaa
