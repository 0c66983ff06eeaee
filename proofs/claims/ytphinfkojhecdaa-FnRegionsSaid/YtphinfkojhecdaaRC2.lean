/- The walks, printed by program: whenever the model gives r, the call returns r. Part 2. -/
import Derived.Test.YtphinfkojhecdaaRM
import Derived.Test.YtphinfkojhecdaaProg
import Derived.Test.YtphinfkojhecdaaRC1
set_option linter.unusedVariables false
set_option maxRecDepth 100000
set_option maxHeartbeats 4000000
namespace Go.Proofs.Ytphinfkojhecdaa
open Go.Gx
theorem c_slices_symMergeCmpFunc_97__i_asMap_1 (fuel_ : Nat) : ∀ (w : World) (x3550 : List Region) (p3552 : Option Addr) (c3553 : Nat) (sg3554 : Seg) (ho3555 : ownS encRegion x3550 p3552 c3553 sg3554) (x3556 : Int) (x3557 : Int) (x3558 : Int) (hA : ∀ q ∈ List.flatten [sg3554], w.heap[q.1]? = some q.2) (hN : (idsOf [sg3554]).Nodup) {r : (List Region)} (hm : M.slices_symMergeCmpFunc_97__i_asMap_1 fuel_ x3550 x3556 x3557 x3558 = some r),
    Calls Try.prog 97 #[.slice p3552 x3550.length c3553, .int .i64 x3556, .int .i64 x3557, .int .i64 x3558, .func (.func 90) #[] #[]] w fun e w' => ∃ (sg3559 : Seg), e = .returned (.tuple #[]) ∧ ownS encRegion r p3552 c3553 sg3559 ∧ r.length = x3550.length ∧ Mem (idsOf [sg3554]) w w' [sg3559] := by
  induction fuel_ with
  | zero =>
    intro w x3550 p3552 c3553 sg3554 ho3555 x3556 x3557 x3558 hA hN r hm
    unfold M.slices_symMergeCmpFunc_97__i_asMap_1 at hm
    cases hm
  | succ n_ ih_ =>
    intro w x3550 p3552 c3553 sg3554 ho3555 x3556 x3557 x3558 hA hN r hm
    unfold M.slices_symMergeCmpFunc_97__i_asMap_1 at hm
    refine C_enter Try.func97 rfl (by kernel_rfl) ?_
    have M0 := Mem.start' w [sg3554] hA hN
    refine G_seq ?_
    refine G_seq ?_
    refine G_region ?_
    refine W_run 4 [(0, .slice p3552 x3550.length c3553), (1, .int .i64 x3556), (2, .int .i64 x3557), (3, .int .i64 x3558), (4, .func (.func 90) #[] #[]), (28, .bool ((w64 (x3557 - x3556)) == 1))] w (by kernel_rfl) ?_
    refine W_nil ?_
    refine N_then ?_
    rcases gx_bif hm with ⟨hc3560, hm⟩ | ⟨hc3560, hm⟩
    · refine G_cond_t (b := ((w64 (x3557 - x3556)) == 1)) hc3560 (by kernel_rfl) ?_
      refine G_seq ?_
      refine G_region ?_
      refine W_run 2 [(0, .slice p3552 x3550.length c3553), (1, .int .i64 x3556), (3, .int .i64 x3558), (4, .func (.func 90) #[] #[]), (10, .int .i64 x3557)] w (by kernel_rfl) ?_
      refine W_nil ?_
      refine N_then ?_
      refine G_seq ?_
      refine G_region ?_
      refine W_run 2 [(0, .slice p3552 x3550.length c3553), (1, .int .i64 x3556), (4, .func (.func 90) #[] #[]), (10, .int .i64 x3557), (11, .int .i64 x3558)] w (by kernel_rfl) ?_
      refine W_nil ?_
      refine N_then ?_
      refine G_seq ?_
      obtain ⟨out3604, hw3605, hmo3606⟩ := gx_bind hm
      refine G_meet (fun a w' => Mem (idsOf [sg3554]) w w' [sg3554] ∧ Sat Try.f97.ntmps [(0, .slice p3552 x3550.length c3553), (1, .int .i64 x3556), (10, .int .i64 out3604)] a) ?_ ?_
      · refine G_block ?_
        refine G_while (σ := Int × Int) (ρ := Int) (fun s3597 a w' => Mem (idsOf [sg3554]) w w' [sg3554] ∧ Sat Try.f97.ntmps [(0, .slice p3552 x3550.length c3553), (1, .int .i64 x3556), (4, .func (.func 90) #[] #[]), (10, .int .i64 s3597.1), (11, .int .i64 s3597.2)] a) hw3605 (fun a ha => ⟨M0.pick [0] (by kernel_rfl), ha.sub (by kernel_rfl)⟩) ?_
        clear hm
        intro s3597 x3598 hm hout3599 a3600 w3601 ⟨M3602, hS3603⟩
        refine G_use hS3603 ?_
        refine G_seq ?_
        refine G_seq ?_
        refine G_region ?_
        refine W_run 3 [(0, .slice p3552 x3550.length c3553), (1, .int .i64 x3556), (4, .func (.func 90) #[] #[]), (10, .int .i64 s3597.1), (11, .int .i64 s3597.2), (33, .bool (decide (s3597.1 < s3597.2)))] w3601 (by kernel_rfl) ?_
        refine W_nil ?_
        refine N_then ?_
        rcases gx_bif hm with ⟨hc3608, hm⟩ | ⟨hc3608, hm⟩
        · refine G_cond_t (b := (decide (s3597.1 < s3597.2))) hc3608 (by kernel_rfl) ?_
          refine G_skip ?_
          refine N_then ?_
          refine G_block ?_
          refine G_seq ?_
          refine G_region ?_
          refine W_run 7 [(0, .slice p3552 x3550.length c3553), (1, .int .i64 x3556), (4, .func (.func 90) #[] #[]), (10, .int .i64 s3597.1), (11, .int .i64 s3597.2), (12, .int .i64 (w64 ((IntKind.u64.wrap (w64 (s3597.1 + s3597.2))).fdiv (2 ^ 1))))] w3601 (by kernel_rfl) ?_
          refine W_nil ?_
          refine N_then ?_
          refine G_seq ?_
          refine G_quiet (by kernel_rfl) (by kernel_rfl) M3602 ?_
          refine Z_runs [.func (.func 90) #[] #[], .slice p3552 x3550.length c3553, .int .i64 (w64 ((IntKind.u64.wrap (w64 (s3597.1 + s3597.2))).fdiv (2 ^ 1)))] [(0, .slice p3552 x3550.length c3553), (1, .int .i64 x3556), (4, .func (.func 90) #[] #[]), (10, .int .i64 s3597.1), (11, .int .i64 s3597.2), (12, .int .i64 (w64 ((IntKind.u64.wrap (w64 (s3597.1 + s3597.2))).fdiv (2 ^ 1)))), (40, .func (.func 90) #[] #[]), (41, .slice p3552 x3550.length c3553), (42, .int .i64 (w64 ((IntKind.u64.wrap (w64 (s3597.1 + s3597.2))).fdiv (2 ^ 1))))] (fun w_ => by kernel_rfl) (by kernel_rfl) ?_
          obtain ⟨y3609, hy3609, hm⟩ := gx_bind hm
          refine Z_val (elemP p3552 ((w64 ((IntKind.u64.wrap (w64 (s3597.1 + s3597.2))).fdiv (2 ^ 1))).toNat * 4)) (by kernel_rfl) (fun w_ M_ => (E_index (E := encRegion) _ _ _ x3550.length c3553 .i64 (w64 ((IntKind.u64.wrap (w64 (s3597.1 + s3597.2))).fdiv (2 ^ 1))) 4 (y := y3609) rfl (by kernel_rfl) (by kernel_rfl) (by kernel_rfl) (ho3555.rd M_ 0 (by kernel_rfl)) rfl hy3609)) ?_
          refine Z_val (.agg #[.int .i64 y3609.Base, .int .i64 y3609.Size, .int .i64 y3609.Kind, .int .i64 y3609.Unit]) (by kernel_rfl) (fun w_ M_ => (E_loadE (E := encRegion) _ _ true 4 (w64 ((IntKind.u64.wrap (w64 (s3597.1 + s3597.2))).fdiv (2 ^ 1))) 0 ((w64 ((IntKind.u64.wrap (w64 (s3597.1 + s3597.2))).fdiv (2 ^ 1))).toNat * 4) y3609 (.agg #[.int .i64 y3609.Base, .int .i64 y3609.Size, .int .i64 y3609.Kind, .int .i64 y3609.Unit]) rfl (by kernel_rfl) (by kernel_rfl) (by kernel_rfl) (ho3555.rd M_ 0 (by kernel_rfl)) hy3609 rfl)) ?_
          refine Z_runs [.slice p3552 x3550.length c3553, .int .i64 x3556] [(0, .slice p3552 x3550.length c3553), (1, .int .i64 x3556), (4, .func (.func 90) #[] #[]), (10, .int .i64 s3597.1), (11, .int .i64 s3597.2), (12, .int .i64 (w64 ((IntKind.u64.wrap (w64 (s3597.1 + s3597.2))).fdiv (2 ^ 1)))), (40, .func (.func 90) #[] #[]), (44, .agg #[.int .i64 y3609.Base, .int .i64 y3609.Size, .int .i64 y3609.Kind, .int .i64 y3609.Unit]), (45, .slice p3552 x3550.length c3553), (46, .int .i64 x3556)] (fun w_ => by kernel_rfl) (by kernel_rfl) ?_
          obtain ⟨y3610, hy3610, hm⟩ := gx_bind hm
          refine Z_val (elemP p3552 (x3556.toNat * 4)) (by kernel_rfl) (fun w_ M_ => (E_index (E := encRegion) _ _ _ x3550.length c3553 .i64 x3556 4 (y := y3610) rfl (by kernel_rfl) (by kernel_rfl) (by kernel_rfl) (ho3555.rd M_ 0 (by kernel_rfl)) rfl hy3610)) ?_
          refine Z_val (.agg #[.int .i64 y3610.Base, .int .i64 y3610.Size, .int .i64 y3610.Kind, .int .i64 y3610.Unit]) (by kernel_rfl) (fun w_ M_ => (E_loadE (E := encRegion) _ _ true 4 x3556 0 (x3556.toNat * 4) y3610 (.agg #[.int .i64 y3610.Base, .int .i64 y3610.Size, .int .i64 y3610.Kind, .int .i64 y3610.Unit]) rfl (by kernel_rfl) (by kernel_rfl) (by kernel_rfl) (ho3555.rd M_ 0 (by kernel_rfl)) hy3610 rfl)) ?_
          obtain ⟨r3611, hr3611, hm⟩ := gx_bind hm
          refine Z_call 90 #[.agg #[.int .i64 y3609.Base, .int .i64 y3609.Size, .int .i64 y3609.Kind, .int .i64 y3609.Unit], .agg #[.int .i64 y3610.Base, .int .i64 y3610.Size, .int .i64 y3610.Kind, .int .i64 y3610.Unit]] (.int .i64 r3611) (by kernel_rfl) (fun w_ => by kernel_rfl) (fun w_ M_ => (c_i_asMap_1 w_ y3609 y3610 hr3611).mono fun e w2_ h_ => ⟨h_.1, M_.call0 h_.2⟩) ?_
          refine Z_runs [.bool (decide (r3611 < 0))] [(0, .slice p3552 x3550.length c3553), (1, .int .i64 x3556), (4, .func (.func 90) #[] #[]), (10, .int .i64 s3597.1), (11, .int .i64 s3597.2), (12, .int .i64 (w64 ((IntKind.u64.wrap (w64 (s3597.1 + s3597.2))).fdiv (2 ^ 1)))), (50, .bool (decide (r3611 < 0)))] (fun w_ => by kernel_rfl) (by kernel_rfl) ?_
          refine Z_end fun w3615 M3616 => ?_
          refine N_then ?_
          obtain ⟨o3618, ho3619, hm3620⟩ := gx_bind hm
          refine G_meet (fun a w' => Mem (idsOf [sg3554]) w w' [sg3554] ∧ Sat Try.f97.ntmps [(0, .slice p3552 x3550.length c3553), (1, .int .i64 x3556), (4, .func (.func 90) #[] #[]), (10, .int .i64 o3618.1), (11, .int .i64 o3618.2)] a) ?_ ?_
          · have hm := ho3619
            rcases gx_bif hm with ⟨hc3621, hm⟩ | ⟨hc3621, hm⟩
            · refine G_cond_t (b := (decide (r3611 < 0))) hc3621 (by kernel_rfl) ?_
              refine G_region ?_
              refine W_run 3 [(0, .slice p3552 x3550.length c3553), (1, .int .i64 x3556), (4, .func (.func 90) #[] #[]), (10, .int .i64 (w64 ((w64 ((IntKind.u64.wrap (w64 (s3597.1 + s3597.2))).fdiv (2 ^ 1))) + 1))), (11, .int .i64 s3597.2)] w3615 (by kernel_rfl) ?_
              refine W_nil ?_
              obtain rfl := Option.some.inj hm
              exact N_meet fun a ha => ⟨M3616.pick [0] (by kernel_rfl), ha.sub (by kernel_rfl)⟩
            · refine G_cond_f (b := (decide (r3611 < 0))) hc3621 (by kernel_rfl) ?_
              refine G_region ?_
              refine W_run 2 [(0, .slice p3552 x3550.length c3553), (1, .int .i64 x3556), (4, .func (.func 90) #[] #[]), (10, .int .i64 s3597.1), (11, .int .i64 (w64 ((IntKind.u64.wrap (w64 (s3597.1 + s3597.2))).fdiv (2 ^ 1))))] w3615 (by kernel_rfl) ?_
              refine W_nil ?_
              obtain rfl := Option.some.inj hm
              exact N_meet fun a ha => ⟨M3616.pick [0] (by kernel_rfl), ha.sub (by kernel_rfl)⟩
          · intro a3624 w3622 ⟨M3623, hS3625⟩
            refine N_use hS3625 ?_
            have hm := hm3620
            refine N_block ?_
            obtain rfl := Option.some.inj hm
            exact N_loop fun a ha => ⟨_, rfl, M3623.pick [0] (by kernel_rfl), ha.sub (by kernel_rfl)⟩
        · refine G_cond_f (b := (decide (s3597.1 < s3597.2))) hc3608 (by kernel_rfl) ?_
          refine G_exit ?_
          refine N_then_exit ?_
          refine N_then_exit ?_
          refine N_block_eq ?_
          obtain rfl := Option.some.inj hm
          obtain rfl := hout3599 _ rfl
          exact N_meet fun a ha => ⟨M3602.pick [0] (by kernel_rfl), ha.sub (by kernel_rfl)⟩
      · intro a3626 w3627 ⟨M3628, hS3629⟩
        refine N_use hS3629 ?_
        have hm := hmo3606
        refine N_then ?_
        refine G_seq ?_
        refine G_seq ?_
        refine G_region ?_
        refine W_run 2 [(0, .slice p3552 x3550.length c3553), (10, .int .i64 out3604), (13, .int .i64 x3556)] w3627 (by kernel_rfl) ?_
        refine W_nil ?_
        refine N_then ?_
        obtain ⟨out3804, hw3805, hmo3806⟩ := gx_bind hm
        refine G_meet (fun a w' => ∃ (sg3811 : Seg), ownS encRegion out3804 p3552 c3553 sg3811 ∧ out3804.length = x3550.length ∧ Mem (idsOf [sg3554]) w w' [sg3811] ∧ Sat Try.f97.ntmps [] a) ?_ ?_
        · refine G_block ?_
          refine G_while (σ := Int × List Region) (ρ := List Region) (fun s3797 a w' => ∃ (sg3807 : Seg), ownS encRegion s3797.2 p3552 c3553 sg3807 ∧ s3797.2.length = x3550.length ∧ Mem (idsOf [sg3554]) w w' [sg3807] ∧ Sat Try.f97.ntmps [(0, .slice p3552 s3797.2.length c3553), (10, .int .i64 out3604), (13, .int .i64 s3797.1)] a) hw3805 (fun a ha => ⟨sg3554, ho3555, rfl, M3628.pick [0] (by kernel_rfl), ha.sub (by kernel_rfl)⟩) ?_
          clear hm
          intro s3797 x3798 hm hout3799 a3800 w3801 ⟨sg3807, ho3808, hl3809, M3802, hS3803⟩
          refine G_use hS3803 ?_
          refine G_seq ?_
          refine G_seq ?_
          refine G_region ?_
          refine W_run 4 [(0, .slice p3552 s3797.2.length c3553), (10, .int .i64 out3604), (13, .int .i64 s3797.1), (58, .bool (decide (s3797.1 < (w64 (out3604 - 1)))))] w3801 (by kernel_rfl) ?_
          refine W_nil ?_
          refine N_then ?_
          rcases gx_bif hm with ⟨hc3814, hm⟩ | ⟨hc3814, hm⟩
          · refine G_cond_t (b := (decide (s3797.1 < (w64 (out3604 - 1))))) hc3814 (by kernel_rfl) ?_
            refine G_skip ?_
            refine N_then ?_
            refine G_seq ?_
            refine G_block ?_
            obtain ⟨y3817, hy3817, hm⟩ := gx_bind hm
            obtain ⟨y3818, hy3818, hm⟩ := gx_bind hm
            obtain ⟨y3819, hy3819, hm⟩ := gx_bind hm
            have M3821 : Mem (idsOf [sg3554]) w w3801 ([] ++ (List.range 16).map (fun i => ([[], [], [], [], [], [], [], [], [], [], [], [], [], [], [], sg3807] : List Seg).getD i [])) := M3802.pick [300000, 300001, 300002, 300003, 300004, 300005, 300006, 300007, 300008, 300009, 300010, 300011, 300012, 300013, 300014, 0] (by kernel_rfl)
            refine G_sub [(0, .slice p3552 s3797.2.length c3553), (10, .int .i64 out3604), (13, .int .i64 s3797.1), (58, .bool (decide (s3797.1 < (w64 (out3604 - 1)))))] (by kernel_rfl) ?_
            refine G_dagL 16 [[], [], [], [], [3], [], [], [6], [5, 7], [8], [], [], [10, 11], [12], [0, 1], [9, 14]] [[], [], [], [], [], [], [], [], [], [], [], [], [], [], [], []] [[], [], [], [], [], [], [], [], [], [], [], [], [], [], [], []] [[], [], [], [], [], [], [], [], [], [], [], [], [], [], [], []] [[], [], [], [], [], [], [], [], [], [], [], [], [], [], [], []] [[], [], [], [], [], [], [], [], [15], [15], [], [], [15], [15], [15], []] (fun i => ([[], [], [], [], [], [], [], [], [], [], [], [], [], [], [], sg3807] : List Seg).getD i []) (fun i => ([fun f v s => v = (.slice p3552 s3797.2.length c3553 : Value) ∧ s = [], fun f v s => v = (.int .i64 s3797.1 : Value) ∧ s = [], fun f v s => v = (.slice p3552 s3797.2.length c3553 : Value) ∧ s = [], fun f v s => v = (.int .i64 s3797.1 : Value) ∧ s = [], fun f v s => v = (.int .i64 (w64 (s3797.1 + 1)) : Value) ∧ s = [], fun f v s => v = (.slice p3552 s3797.2.length c3553 : Value) ∧ s = [], fun f v s => v = (.int .i64 s3797.1 : Value) ∧ s = [], fun f v s => v = (.int .i64 (w64 (s3797.1 + 1)) : Value) ∧ s = [], fun f v s => v = (elemP p3552 ((w64 (s3797.1 + 1)).toNat * 4) : Value) ∧ s = [], fun f v s => v = (.agg #[.int .i64 y3817.Base, .int .i64 y3817.Size, .int .i64 y3817.Kind, .int .i64 y3817.Unit] : Value) ∧ s = [], fun f v s => v = (.slice p3552 s3797.2.length c3553 : Value) ∧ s = [], fun f v s => v = (.int .i64 s3797.1 : Value) ∧ s = [], fun f v s => v = (elemP p3552 (s3797.1.toNat * 4) : Value) ∧ s = [], fun f v s => v = (.agg #[.int .i64 y3818.Base, .int .i64 y3818.Size, .int .i64 y3818.Kind, .int .i64 y3818.Unit] : Value) ∧ s = [], fun f v s => v = (elemP p3552 (s3797.1.toNat * 4) : Value) ∧ s = [], fun f v s => v = undef ∧ ownS encRegion (s3797.2.set s3797.1.toNat y3817) p3552 c3553 s] : List ((Nat → Value) → Value → Seg → Prop)).getD i (fun _ _ _ => False)) (fun j f v => ∃ s, (fun i => ([fun f v s => v = (.slice p3552 s3797.2.length c3553 : Value) ∧ s = [], fun f v s => v = (.int .i64 s3797.1 : Value) ∧ s = [], fun f v s => v = (.slice p3552 s3797.2.length c3553 : Value) ∧ s = [], fun f v s => v = (.int .i64 s3797.1 : Value) ∧ s = [], fun f v s => v = (.int .i64 (w64 (s3797.1 + 1)) : Value) ∧ s = [], fun f v s => v = (.slice p3552 s3797.2.length c3553 : Value) ∧ s = [], fun f v s => v = (.int .i64 s3797.1 : Value) ∧ s = [], fun f v s => v = (.int .i64 (w64 (s3797.1 + 1)) : Value) ∧ s = [], fun f v s => v = (elemP p3552 ((w64 (s3797.1 + 1)).toNat * 4) : Value) ∧ s = [], fun f v s => v = (.agg #[.int .i64 y3817.Base, .int .i64 y3817.Size, .int .i64 y3817.Kind, .int .i64 y3817.Unit] : Value) ∧ s = [], fun f v s => v = (.slice p3552 s3797.2.length c3553 : Value) ∧ s = [], fun f v s => v = (.int .i64 s3797.1 : Value) ∧ s = [], fun f v s => v = (elemP p3552 (s3797.1.toNat * 4) : Value) ∧ s = [], fun f v s => v = (.agg #[.int .i64 y3818.Base, .int .i64 y3818.Size, .int .i64 y3818.Kind, .int .i64 y3818.Unit] : Value) ∧ s = [], fun f v s => v = (elemP p3552 (s3797.1.toNat * 4) : Value) ∧ s = [], fun f v s => v = undef ∧ ownS encRegion (s3797.2.set s3797.1.toNat y3817) p3552 c3553 s] : List ((Nat → Value) → Value → Seg → Prop)).getD i (fun _ _ _ => False)) j f v s) [] [2, 4, 13, 15] [15] (fun _ _ _ s h => ⟨s, h⟩) (by kernel_rfl) (by kernel_rfl) M3821 (by kernel_rfl) (by kernel_rfl) (by kernel_rfl) (by kernel_rfl) (allOb_cons ?_ (allOb_cons ?_ (allOb_cons ?_ (allOb_cons ?_ (allOb_cons ?_ (allOb_cons ?_ (allOb_cons ?_ (allOb_cons ?_ (allOb_cons ?_ (allOb_cons ?_ (allOb_cons ?_ (allOb_cons ?_ (allOb_cons ?_ (allOb_cons ?_ (allOb_cons ?_ (allOb_cons ?_ allOb_nil)))))))))))))))) ?_
            · intro g3815 f3816
              intro R w3822 M3823
              refine W_run 1 [(61, .slice p3552 s3797.2.length c3553)] w3822 (by kernel_rfl) ?_
              exact W_nil (ob_end (.slice p3552 s3797.2.length c3553) [] rfl (by kernel_rfl) ⟨by kernel_rfl, rfl⟩ M3823)
            · intro g3815 f3816
              intro R w3826 M3827
              refine W_run 1 [(62, .int .i64 s3797.1)] w3826 (by kernel_rfl) ?_
              exact W_nil (ob_end (.int .i64 s3797.1) [] rfl (by kernel_rfl) ⟨by kernel_rfl, rfl⟩ M3827)
            · intro g3815 f3816
              intro R w3830 M3831
              refine W_run 1 [(63, .slice p3552 s3797.2.length c3553)] w3830 (by kernel_rfl) ?_
              exact W_nil (ob_end (.slice p3552 s3797.2.length c3553) [] rfl (by kernel_rfl) ⟨by kernel_rfl, rfl⟩ M3831)
            · intro g3815 f3816
              intro R w3834 M3835
              refine W_run 1 [(64, .int .i64 s3797.1)] w3834 (by kernel_rfl) ?_
              exact W_nil (ob_end (.int .i64 s3797.1) [] rfl (by kernel_rfl) ⟨by kernel_rfl, rfl⟩ M3835)
            · intro g3815 f3816
              intro v3_ hb3_
              obtain ⟨rfl, _⟩ := hb3_
              intro R w3838 M3839
              refine W_run 1 [(65, .int .i64 (w64 (s3797.1 + 1)))] w3838 (by kernel_rfl) ?_
              exact W_nil (ob_end (.int .i64 (w64 (s3797.1 + 1))) [] rfl (by kernel_rfl) ⟨by kernel_rfl, rfl⟩ M3839)
            · intro g3815 f3816
              intro R w3842 M3843
              refine W_run 1 [(66, .slice p3552 s3797.2.length c3553)] w3842 (by kernel_rfl) ?_
              exact W_nil (ob_end (.slice p3552 s3797.2.length c3553) [] rfl (by kernel_rfl) ⟨by kernel_rfl, rfl⟩ M3843)
            · intro g3815 f3816
              intro R w3846 M3847
              refine W_run 1 [(67, .int .i64 s3797.1)] w3846 (by kernel_rfl) ?_
              exact W_nil (ob_end (.int .i64 s3797.1) [] rfl (by kernel_rfl) ⟨by kernel_rfl, rfl⟩ M3847)
            · intro g3815 f3816
              intro v6_ hb6_
              obtain ⟨rfl, _⟩ := hb6_
              intro R w3850 M3851
              refine W_run 1 [(68, .int .i64 (w64 (s3797.1 + 1)))] w3850 (by kernel_rfl) ?_
              exact W_nil (ob_end (.int .i64 (w64 (s3797.1 + 1))) [] rfl (by kernel_rfl) ⟨by kernel_rfl, rfl⟩ M3851)
            · intro g3815 f3816
              intro v5_ hb5_
              obtain ⟨rfl, _⟩ := hb5_
              intro v7_ hb7_
              obtain ⟨rfl, _⟩ := hb7_
              intro R w3854 M3855
              refine W_val (elemP p3552 ((w64 (s3797.1 + 1)).toNat * 4)) w3854 (by kernel_rfl) (E_index (E := encRegion) _ _ _ s3797.2.length c3553 .i64 (w64 (s3797.1 + 1)) 4 (y := y3817) rfl (by kernel_rfl) (by kernel_rfl) (by kernel_rfl) (ho3808.rd M3855 1 (by kernel_rfl)) rfl hy3817) ?_
              exact W_nil (ob_end (elemP p3552 ((w64 (s3797.1 + 1)).toNat * 4)) [] rfl (by kernel_rfl) ⟨by kernel_rfl, rfl⟩ M3855)
            · intro g3815 f3816
              intro v8_ hb8_
              obtain ⟨rfl, _⟩ := hb8_
              intro R w3858 M3859
              refine W_val (.agg #[.int .i64 y3817.Base, .int .i64 y3817.Size, .int .i64 y3817.Kind, .int .i64 y3817.Unit]) w3858 (by kernel_rfl) (E_loadE (E := encRegion) _ _ true 4 (w64 (s3797.1 + 1)) 0 ((w64 (s3797.1 + 1)).toNat * 4) y3817 (.agg #[.int .i64 y3817.Base, .int .i64 y3817.Size, .int .i64 y3817.Kind, .int .i64 y3817.Unit]) rfl (by kernel_rfl) (by kernel_rfl) (by kernel_rfl) (ho3808.rd M3859 1 (by kernel_rfl)) hy3817 rfl) ?_
              exact W_nil (ob_end (.agg #[.int .i64 y3817.Base, .int .i64 y3817.Size, .int .i64 y3817.Kind, .int .i64 y3817.Unit]) [] rfl (by kernel_rfl) ⟨by kernel_rfl, rfl⟩ M3859)
            · intro g3815 f3816
              intro R w3862 M3863
              refine W_run 1 [(71, .slice p3552 s3797.2.length c3553)] w3862 (by kernel_rfl) ?_
              exact W_nil (ob_end (.slice p3552 s3797.2.length c3553) [] rfl (by kernel_rfl) ⟨by kernel_rfl, rfl⟩ M3863)
            · intro g3815 f3816
              intro R w3866 M3867
              refine W_run 1 [(72, .int .i64 s3797.1)] w3866 (by kernel_rfl) ?_
              exact W_nil (ob_end (.int .i64 s3797.1) [] rfl (by kernel_rfl) ⟨by kernel_rfl, rfl⟩ M3867)
            · intro g3815 f3816
              intro v10_ hb10_
              obtain ⟨rfl, _⟩ := hb10_
              intro v11_ hb11_
              obtain ⟨rfl, _⟩ := hb11_
              intro R w3870 M3871
              refine W_val (elemP p3552 (s3797.1.toNat * 4)) w3870 (by kernel_rfl) (E_index (E := encRegion) _ _ _ s3797.2.length c3553 .i64 s3797.1 4 (y := y3818) rfl (by kernel_rfl) (by kernel_rfl) (by kernel_rfl) (ho3808.rd M3871 1 (by kernel_rfl)) rfl hy3818) ?_
              exact W_nil (ob_end (elemP p3552 (s3797.1.toNat * 4)) [] rfl (by kernel_rfl) ⟨by kernel_rfl, rfl⟩ M3871)
            · intro g3815 f3816
              intro v12_ hb12_
              obtain ⟨rfl, _⟩ := hb12_
              intro R w3874 M3875
              refine W_val (.agg #[.int .i64 y3818.Base, .int .i64 y3818.Size, .int .i64 y3818.Kind, .int .i64 y3818.Unit]) w3874 (by kernel_rfl) (E_loadE (E := encRegion) _ _ true 4 s3797.1 0 (s3797.1.toNat * 4) y3818 (.agg #[.int .i64 y3818.Base, .int .i64 y3818.Size, .int .i64 y3818.Kind, .int .i64 y3818.Unit]) rfl (by kernel_rfl) (by kernel_rfl) (by kernel_rfl) (ho3808.rd M3875 1 (by kernel_rfl)) hy3818 rfl) ?_
              exact W_nil (ob_end (.agg #[.int .i64 y3818.Base, .int .i64 y3818.Size, .int .i64 y3818.Kind, .int .i64 y3818.Unit]) [] rfl (by kernel_rfl) ⟨by kernel_rfl, rfl⟩ M3875)
            · intro g3815 f3816
              intro v0_ hb0_
              obtain ⟨rfl, _⟩ := hb0_
              intro v1_ hb1_
              obtain ⟨rfl, _⟩ := hb1_
              intro R w3878 M3879
              refine W_val (elemP p3552 (s3797.1.toNat * 4)) w3878 (by kernel_rfl) (E_index (E := encRegion) _ _ _ s3797.2.length c3553 .i64 s3797.1 4 (y := y3819) rfl (by kernel_rfl) (by kernel_rfl) (by kernel_rfl) (ho3808.rd M3879 1 (by kernel_rfl)) rfl hy3819) ?_
              exact W_nil (ob_end (elemP p3552 (s3797.1.toNat * 4)) [] rfl (by kernel_rfl) ⟨by kernel_rfl, rfl⟩ M3879)
            · intro g3815 f3816
              intro v9_ hb9_
              obtain ⟨rfl, _⟩ := hb9_
              intro v14_ hb14_
              obtain ⟨rfl, _⟩ := hb14_
              intro R w3882 M3883
              refine W_storeE (E := encRegion) _ _ _ true 4 s3797.1.toNat 0 (s3797.1.toNat * 4) y3819 y3817 (.agg #[.int .i64 y3817.Base, .int .i64 y3817.Size, .int .i64 y3817.Kind, .int .i64 y3817.Unit]) 0 M3883 ho3808 (by kernel_rfl) (by kernel_rfl) rfl (by kernel_rfl) (by kernel_rfl) (by kernel_rfl) (by kernel_rfl) (by kernel_rfl) (by kernel_rfl) (by kernel_rfl) (gxIdx_spec hy3819).2 rfl ?_
              intro w3884 sg3886 ho3887 M3885
              exact W_nil (ob_none sg3886 rfl ⟨rfl, ho3887⟩ M3885)
            · intro g3815 f3816
              intro v2_ hb2_
              obtain ⟨rfl, _⟩ := hb2_
              intro v4_ hb4_
              obtain ⟨rfl, _⟩ := hb4_
              intro v13_ hb13_
              obtain ⟨rfl, _⟩ := hb13_
              intro v15_ hb15_
              obtain ⟨rfl, ho3820⟩ := hb15_
              intro w3888 M3889
              have M3890 : Mem (idsOf [sg3554]) w w3888 [(g3815 15)] := M3889
              refine W_conv 0 (.slice p3552 s3797.2.length c3553) (.slice p3552 (s3797.2.set s3797.1.toNat y3817).length c3553) (by kernel_rfl) (by rw [@List.length_set _ s3797.2 s3797.1.toNat y3817]) ?_
              refine W_conv 63 (.slice p3552 s3797.2.length c3553) (.slice p3552 (s3797.2.set s3797.1.toNat y3817).length c3553) (by kernel_rfl) (by rw [@List.length_set _ s3797.2 s3797.1.toNat y3817]) ?_
              obtain ⟨y3891, hy3891, hm⟩ := gx_bind hm
              refine W_val (elemP p3552 ((w64 (s3797.1 + 1)).toNat * 4)) w3888 (by kernel_rfl) (E_index (E := encRegion) _ _ _ (s3797.2.set s3797.1.toNat y3817).length c3553 .i64 (w64 (s3797.1 + 1)) 4 (y := y3891) rfl (by kernel_rfl) (by kernel_rfl) (by kernel_rfl) (ho3820.rd M3890 0 (by kernel_rfl)) rfl hy3891) ?_
              refine W_storeE (E := encRegion) _ _ _ true 4 (w64 (s3797.1 + 1)).toNat 0 ((w64 (s3797.1 + 1)).toNat * 4) y3891 y3818 (.agg #[.int .i64 y3818.Base, .int .i64 y3818.Size, .int .i64 y3818.Kind, .int .i64 y3818.Unit]) 0 M3890 ho3820 (by kernel_rfl) (by kernel_rfl) rfl (by kernel_rfl) (by kernel_rfl) (by kernel_rfl) (by kernel_rfl) (by kernel_rfl) (by kernel_rfl) (by kernel_rfl) (gxIdx_spec hy3891).2 rfl ?_
              intro w3892 sg3894 ho3895 M3893
              refine W_conv 0 (.slice p3552 (s3797.2.set s3797.1.toNat y3817).length c3553) (.slice p3552 ((s3797.2.set s3797.1.toNat y3817).set (w64 (s3797.1 + 1)).toNat y3818).length c3553) (by kernel_rfl) (by rw [@List.length_set _ (s3797.2.set s3797.1.toNat y3817) ((w64 (s3797.1 + 1)).toNat) y3818]) ?_
              refine W_conv 63 (.slice p3552 (s3797.2.set s3797.1.toNat y3817).length c3553) (.slice p3552 ((s3797.2.set s3797.1.toNat y3817).set (w64 (s3797.1 + 1)).toNat y3818).length c3553) (by kernel_rfl) (by rw [@List.length_set _ (s3797.2.set s3797.1.toNat y3817) ((w64 (s3797.1 + 1)).toNat) y3818]) ?_
              refine W_nil ?_
              refine N_block ?_
              refine N_then ?_
              refine G_region ?_
              refine W_run 3 [(0, .slice p3552 ((s3797.2.set s3797.1.toNat y3817).set (w64 (s3797.1 + 1)).toNat y3818).length c3553), (10, .int .i64 out3604), (13, .int .i64 (w64 (s3797.1 + 1)))] w3892 (by kernel_rfl) ?_
              refine W_nil ?_
              obtain rfl := Option.some.inj hm
              exact N_loop fun a ha => ⟨_, rfl, sg3894, ho3895, (List.length_set.trans (List.length_set.trans hl3809)), M3893.pick [0] (by kernel_rfl), ha.sub (by kernel_rfl)⟩
          · refine G_cond_f (b := (decide (s3797.1 < (w64 (out3604 - 1))))) hc3814 (by kernel_rfl) ?_
            refine G_exit ?_
            refine N_then_exit ?_
            refine N_then_exit ?_
            refine N_block_eq ?_
            obtain rfl := Option.some.inj hm
            obtain rfl := hout3799 _ rfl
            exact N_meet fun a ha => ⟨sg3807, ho3808, hl3809, M3802.pick [0] (by kernel_rfl), ha.sub (by kernel_rfl)⟩
        · intro a3896 w3897 ⟨sg3811, ho3812, hl3813, M3898, hS3899⟩
          refine N_use hS3899 ?_
          have hm := hmo3806
          refine N_then ?_
          refine G_ret ?_
          refine N_then_ret ?_
          obtain rfl := Option.some.inj hm
          refine N_ret [] (RVs_nil) ?_
          exact ⟨sg3811, rfl, ho3812, hl3813, M3898.pick [0] (by kernel_rfl)⟩
    · refine G_cond_f (b := ((w64 (x3557 - x3556)) == 1)) hc3560 (by kernel_rfl) ?_
      refine G_skip ?_
      refine N_then ?_
      refine G_seq ?_
      refine G_seq ?_
      refine G_region ?_
      refine W_run 4 [(0, .slice p3552 x3550.length c3553), (1, .int .i64 x3556), (2, .int .i64 x3557), (3, .int .i64 x3558), (4, .func (.func 90) #[] #[]), (80, .bool ((w64 (x3558 - x3557)) == 1))] w (by kernel_rfl) ?_
      refine W_nil ?_
      refine N_then ?_
      rcases gx_bif hm with ⟨hc3900, hm⟩ | ⟨hc3900, hm⟩
      · refine G_cond_t (b := ((w64 (x3558 - x3557)) == 1)) hc3900 (by kernel_rfl) ?_
        refine G_seq ?_
        refine G_region ?_
        refine W_run 2 [(0, .slice p3552 x3550.length c3553), (2, .int .i64 x3557), (4, .func (.func 90) #[] #[]), (14, .int .i64 x3556)] w (by kernel_rfl) ?_
        refine W_nil ?_
        refine N_then ?_
        refine G_seq ?_
        refine G_region ?_
        refine W_run 2 [(0, .slice p3552 x3550.length c3553), (2, .int .i64 x3557), (4, .func (.func 90) #[] #[]), (14, .int .i64 x3556), (15, .int .i64 x3557)] w (by kernel_rfl) ?_
        refine W_nil ?_
        refine N_then ?_
        refine G_seq ?_
        obtain ⟨out3944, hw3945, hmo3946⟩ := gx_bind hm
        refine G_meet (fun a w' => Mem (idsOf [sg3554]) w w' [sg3554] ∧ Sat Try.f97.ntmps [(0, .slice p3552 x3550.length c3553), (2, .int .i64 x3557), (14, .int .i64 out3944)] a) ?_ ?_
        · refine G_block ?_
          refine G_while (σ := Int × Int) (ρ := Int) (fun s3937 a w' => Mem (idsOf [sg3554]) w w' [sg3554] ∧ Sat Try.f97.ntmps [(0, .slice p3552 x3550.length c3553), (2, .int .i64 x3557), (4, .func (.func 90) #[] #[]), (14, .int .i64 s3937.1), (15, .int .i64 s3937.2)] a) hw3945 (fun a ha => ⟨M0.pick [0] (by kernel_rfl), ha.sub (by kernel_rfl)⟩) ?_
          clear hm
          intro s3937 x3938 hm hout3939 a3940 w3941 ⟨M3942, hS3943⟩
          refine G_use hS3943 ?_
          refine G_seq ?_
          refine G_seq ?_
          refine G_region ?_
          refine W_run 3 [(0, .slice p3552 x3550.length c3553), (2, .int .i64 x3557), (4, .func (.func 90) #[] #[]), (14, .int .i64 s3937.1), (15, .int .i64 s3937.2), (85, .bool (decide (s3937.1 < s3937.2)))] w3941 (by kernel_rfl) ?_
          refine W_nil ?_
          refine N_then ?_
          rcases gx_bif hm with ⟨hc3948, hm⟩ | ⟨hc3948, hm⟩
          · refine G_cond_t (b := (decide (s3937.1 < s3937.2))) hc3948 (by kernel_rfl) ?_
            refine G_skip ?_
            refine N_then ?_
            refine G_block ?_
            refine G_seq ?_
            refine G_region ?_
            refine W_run 7 [(0, .slice p3552 x3550.length c3553), (2, .int .i64 x3557), (4, .func (.func 90) #[] #[]), (14, .int .i64 s3937.1), (15, .int .i64 s3937.2), (16, .int .i64 (w64 ((IntKind.u64.wrap (w64 (s3937.1 + s3937.2))).fdiv (2 ^ 1))))] w3941 (by kernel_rfl) ?_
            refine W_nil ?_
            refine N_then ?_
            refine G_seq ?_
            refine G_quiet (by kernel_rfl) (by kernel_rfl) M3942 ?_
            refine Z_runs [.func (.func 90) #[] #[], .slice p3552 x3550.length c3553, .int .i64 x3557] [(0, .slice p3552 x3550.length c3553), (2, .int .i64 x3557), (4, .func (.func 90) #[] #[]), (14, .int .i64 s3937.1), (15, .int .i64 s3937.2), (16, .int .i64 (w64 ((IntKind.u64.wrap (w64 (s3937.1 + s3937.2))).fdiv (2 ^ 1)))), (92, .func (.func 90) #[] #[]), (93, .slice p3552 x3550.length c3553), (94, .int .i64 x3557)] (fun w_ => by kernel_rfl) (by kernel_rfl) ?_
            obtain ⟨y3949, hy3949, hm⟩ := gx_bind hm
            refine Z_val (elemP p3552 (x3557.toNat * 4)) (by kernel_rfl) (fun w_ M_ => (E_index (E := encRegion) _ _ _ x3550.length c3553 .i64 x3557 4 (y := y3949) rfl (by kernel_rfl) (by kernel_rfl) (by kernel_rfl) (ho3555.rd M_ 0 (by kernel_rfl)) rfl hy3949)) ?_
            refine Z_val (.agg #[.int .i64 y3949.Base, .int .i64 y3949.Size, .int .i64 y3949.Kind, .int .i64 y3949.Unit]) (by kernel_rfl) (fun w_ M_ => (E_loadE (E := encRegion) _ _ true 4 x3557 0 (x3557.toNat * 4) y3949 (.agg #[.int .i64 y3949.Base, .int .i64 y3949.Size, .int .i64 y3949.Kind, .int .i64 y3949.Unit]) rfl (by kernel_rfl) (by kernel_rfl) (by kernel_rfl) (ho3555.rd M_ 0 (by kernel_rfl)) hy3949 rfl)) ?_
            refine Z_runs [.slice p3552 x3550.length c3553, .int .i64 (w64 ((IntKind.u64.wrap (w64 (s3937.1 + s3937.2))).fdiv (2 ^ 1)))] [(0, .slice p3552 x3550.length c3553), (2, .int .i64 x3557), (4, .func (.func 90) #[] #[]), (14, .int .i64 s3937.1), (15, .int .i64 s3937.2), (16, .int .i64 (w64 ((IntKind.u64.wrap (w64 (s3937.1 + s3937.2))).fdiv (2 ^ 1)))), (92, .func (.func 90) #[] #[]), (96, .agg #[.int .i64 y3949.Base, .int .i64 y3949.Size, .int .i64 y3949.Kind, .int .i64 y3949.Unit]), (97, .slice p3552 x3550.length c3553), (98, .int .i64 (w64 ((IntKind.u64.wrap (w64 (s3937.1 + s3937.2))).fdiv (2 ^ 1))))] (fun w_ => by kernel_rfl) (by kernel_rfl) ?_
            obtain ⟨y3950, hy3950, hm⟩ := gx_bind hm
            refine Z_val (elemP p3552 ((w64 ((IntKind.u64.wrap (w64 (s3937.1 + s3937.2))).fdiv (2 ^ 1))).toNat * 4)) (by kernel_rfl) (fun w_ M_ => (E_index (E := encRegion) _ _ _ x3550.length c3553 .i64 (w64 ((IntKind.u64.wrap (w64 (s3937.1 + s3937.2))).fdiv (2 ^ 1))) 4 (y := y3950) rfl (by kernel_rfl) (by kernel_rfl) (by kernel_rfl) (ho3555.rd M_ 0 (by kernel_rfl)) rfl hy3950)) ?_
            refine Z_val (.agg #[.int .i64 y3950.Base, .int .i64 y3950.Size, .int .i64 y3950.Kind, .int .i64 y3950.Unit]) (by kernel_rfl) (fun w_ M_ => (E_loadE (E := encRegion) _ _ true 4 (w64 ((IntKind.u64.wrap (w64 (s3937.1 + s3937.2))).fdiv (2 ^ 1))) 0 ((w64 ((IntKind.u64.wrap (w64 (s3937.1 + s3937.2))).fdiv (2 ^ 1))).toNat * 4) y3950 (.agg #[.int .i64 y3950.Base, .int .i64 y3950.Size, .int .i64 y3950.Kind, .int .i64 y3950.Unit]) rfl (by kernel_rfl) (by kernel_rfl) (by kernel_rfl) (ho3555.rd M_ 0 (by kernel_rfl)) hy3950 rfl)) ?_
            obtain ⟨r3951, hr3951, hm⟩ := gx_bind hm
            refine Z_call 90 #[.agg #[.int .i64 y3949.Base, .int .i64 y3949.Size, .int .i64 y3949.Kind, .int .i64 y3949.Unit], .agg #[.int .i64 y3950.Base, .int .i64 y3950.Size, .int .i64 y3950.Kind, .int .i64 y3950.Unit]] (.int .i64 r3951) (by kernel_rfl) (fun w_ => by kernel_rfl) (fun w_ M_ => (c_i_asMap_1 w_ y3949 y3950 hr3951).mono fun e w2_ h_ => ⟨h_.1, M_.call0 h_.2⟩) ?_
            refine Z_runs [.bool (decide (r3951 < 0)), .bool (!(decide (r3951 < 0)))] [(0, .slice p3552 x3550.length c3553), (2, .int .i64 x3557), (4, .func (.func 90) #[] #[]), (14, .int .i64 s3937.1), (15, .int .i64 s3937.2), (16, .int .i64 (w64 ((IntKind.u64.wrap (w64 (s3937.1 + s3937.2))).fdiv (2 ^ 1)))), (103, .bool (!(decide (r3951 < 0))))] (fun w_ => by kernel_rfl) (by kernel_rfl) ?_
            refine Z_end fun w3955 M3956 => ?_
            refine N_then ?_
            obtain ⟨o3958, ho3959, hm3960⟩ := gx_bind hm
            refine G_meet (fun a w' => Mem (idsOf [sg3554]) w w' [sg3554] ∧ Sat Try.f97.ntmps [(0, .slice p3552 x3550.length c3553), (2, .int .i64 x3557), (4, .func (.func 90) #[] #[]), (14, .int .i64 o3958.1), (15, .int .i64 o3958.2)] a) ?_ ?_
            · have hm := ho3959
              rcases gx_bif hm with ⟨hc3961, hm⟩ | ⟨hc3961, hm⟩
              · refine G_cond_t (b := (!(decide (r3951 < 0)))) hc3961 (by kernel_rfl) ?_
                refine G_region ?_
                refine W_run 3 [(0, .slice p3552 x3550.length c3553), (2, .int .i64 x3557), (4, .func (.func 90) #[] #[]), (14, .int .i64 (w64 ((w64 ((IntKind.u64.wrap (w64 (s3937.1 + s3937.2))).fdiv (2 ^ 1))) + 1))), (15, .int .i64 s3937.2)] w3955 (by kernel_rfl) ?_
                refine W_nil ?_
                obtain rfl := Option.some.inj hm
                exact N_meet fun a ha => ⟨M3956.pick [0] (by kernel_rfl), ha.sub (by kernel_rfl)⟩
              · refine G_cond_f (b := (!(decide (r3951 < 0)))) hc3961 (by kernel_rfl) ?_
                refine G_region ?_
                refine W_run 2 [(0, .slice p3552 x3550.length c3553), (2, .int .i64 x3557), (4, .func (.func 90) #[] #[]), (14, .int .i64 s3937.1), (15, .int .i64 (w64 ((IntKind.u64.wrap (w64 (s3937.1 + s3937.2))).fdiv (2 ^ 1))))] w3955 (by kernel_rfl) ?_
                refine W_nil ?_
                obtain rfl := Option.some.inj hm
                exact N_meet fun a ha => ⟨M3956.pick [0] (by kernel_rfl), ha.sub (by kernel_rfl)⟩
            · intro a3964 w3962 ⟨M3963, hS3965⟩
              refine N_use hS3965 ?_
              have hm := hm3960
              refine N_block ?_
              obtain rfl := Option.some.inj hm
              exact N_loop fun a ha => ⟨_, rfl, M3963.pick [0] (by kernel_rfl), ha.sub (by kernel_rfl)⟩
          · refine G_cond_f (b := (decide (s3937.1 < s3937.2))) hc3948 (by kernel_rfl) ?_
            refine G_exit ?_
            refine N_then_exit ?_
            refine N_then_exit ?_
            refine N_block_eq ?_
            obtain rfl := Option.some.inj hm
            obtain rfl := hout3939 _ rfl
            exact N_meet fun a ha => ⟨M3942.pick [0] (by kernel_rfl), ha.sub (by kernel_rfl)⟩
        · intro a3966 w3967 ⟨M3968, hS3969⟩
          refine N_use hS3969 ?_
          have hm := hmo3946
          refine N_then ?_
          refine G_seq ?_
          refine G_seq ?_
          refine G_region ?_
          refine W_run 2 [(0, .slice p3552 x3550.length c3553), (14, .int .i64 out3944), (17, .int .i64 x3557)] w3967 (by kernel_rfl) ?_
          refine W_nil ?_
          refine N_then ?_
          obtain ⟨out4144, hw4145, hmo4146⟩ := gx_bind hm
          refine G_meet (fun a w' => ∃ (sg4151 : Seg), ownS encRegion out4144 p3552 c3553 sg4151 ∧ out4144.length = x3550.length ∧ Mem (idsOf [sg3554]) w w' [sg4151] ∧ Sat Try.f97.ntmps [] a) ?_ ?_
          · refine G_block ?_
            refine G_while (σ := Int × List Region) (ρ := List Region) (fun s4137 a w' => ∃ (sg4147 : Seg), ownS encRegion s4137.2 p3552 c3553 sg4147 ∧ s4137.2.length = x3550.length ∧ Mem (idsOf [sg3554]) w w' [sg4147] ∧ Sat Try.f97.ntmps [(0, .slice p3552 s4137.2.length c3553), (14, .int .i64 out3944), (17, .int .i64 s4137.1)] a) hw4145 (fun a ha => ⟨sg3554, ho3555, rfl, M3968.pick [0] (by kernel_rfl), ha.sub (by kernel_rfl)⟩) ?_
            clear hm
            intro s4137 x4138 hm hout4139 a4140 w4141 ⟨sg4147, ho4148, hl4149, M4142, hS4143⟩
            refine G_use hS4143 ?_
            refine G_seq ?_
            refine G_seq ?_
            refine G_region ?_
            refine W_run 3 [(0, .slice p3552 s4137.2.length c3553), (14, .int .i64 out3944), (17, .int .i64 s4137.1), (110, .bool (decide (s4137.1 > out3944)))] w4141 (by kernel_rfl) ?_
            refine W_nil ?_
            refine N_then ?_
            rcases gx_bif hm with ⟨hc4154, hm⟩ | ⟨hc4154, hm⟩
            · refine G_cond_t (b := (decide (s4137.1 > out3944))) hc4154 (by kernel_rfl) ?_
              refine G_skip ?_
              refine N_then ?_
              refine G_seq ?_
              refine G_block ?_
              obtain ⟨y4157, hy4157, hm⟩ := gx_bind hm
              obtain ⟨y4158, hy4158, hm⟩ := gx_bind hm
              obtain ⟨y4159, hy4159, hm⟩ := gx_bind hm
              have M4161 : Mem (idsOf [sg3554]) w w4141 ([] ++ (List.range 16).map (fun i => ([[], [], [], [], [], [], [], [], [], [], [], [], [], [], [], sg4147] : List Seg).getD i [])) := M4142.pick [300000, 300001, 300002, 300003, 300004, 300005, 300006, 300007, 300008, 300009, 300010, 300011, 300012, 300013, 300014, 0] (by kernel_rfl)
              refine G_sub [(0, .slice p3552 s4137.2.length c3553), (14, .int .i64 out3944), (17, .int .i64 s4137.1), (110, .bool (decide (s4137.1 > out3944)))] (by kernel_rfl) ?_
              refine G_dagL 16 [[], [], [], [], [3], [], [], [6], [5, 7], [8], [], [], [10, 11], [12], [0, 1], [9, 14]] [[], [], [], [], [], [], [], [], [], [], [], [], [], [], [], []] [[], [], [], [], [], [], [], [], [], [], [], [], [], [], [], []] [[], [], [], [], [], [], [], [], [], [], [], [], [], [], [], []] [[], [], [], [], [], [], [], [], [], [], [], [], [], [], [], []] [[], [], [], [], [], [], [], [], [15], [15], [], [], [15], [15], [15], []] (fun i => ([[], [], [], [], [], [], [], [], [], [], [], [], [], [], [], sg4147] : List Seg).getD i []) (fun i => ([fun f v s => v = (.slice p3552 s4137.2.length c3553 : Value) ∧ s = [], fun f v s => v = (.int .i64 s4137.1 : Value) ∧ s = [], fun f v s => v = (.slice p3552 s4137.2.length c3553 : Value) ∧ s = [], fun f v s => v = (.int .i64 s4137.1 : Value) ∧ s = [], fun f v s => v = (.int .i64 (w64 (s4137.1 - 1)) : Value) ∧ s = [], fun f v s => v = (.slice p3552 s4137.2.length c3553 : Value) ∧ s = [], fun f v s => v = (.int .i64 s4137.1 : Value) ∧ s = [], fun f v s => v = (.int .i64 (w64 (s4137.1 - 1)) : Value) ∧ s = [], fun f v s => v = (elemP p3552 ((w64 (s4137.1 - 1)).toNat * 4) : Value) ∧ s = [], fun f v s => v = (.agg #[.int .i64 y4157.Base, .int .i64 y4157.Size, .int .i64 y4157.Kind, .int .i64 y4157.Unit] : Value) ∧ s = [], fun f v s => v = (.slice p3552 s4137.2.length c3553 : Value) ∧ s = [], fun f v s => v = (.int .i64 s4137.1 : Value) ∧ s = [], fun f v s => v = (elemP p3552 (s4137.1.toNat * 4) : Value) ∧ s = [], fun f v s => v = (.agg #[.int .i64 y4158.Base, .int .i64 y4158.Size, .int .i64 y4158.Kind, .int .i64 y4158.Unit] : Value) ∧ s = [], fun f v s => v = (elemP p3552 (s4137.1.toNat * 4) : Value) ∧ s = [], fun f v s => v = undef ∧ ownS encRegion (s4137.2.set s4137.1.toNat y4157) p3552 c3553 s] : List ((Nat → Value) → Value → Seg → Prop)).getD i (fun _ _ _ => False)) (fun j f v => ∃ s, (fun i => ([fun f v s => v = (.slice p3552 s4137.2.length c3553 : Value) ∧ s = [], fun f v s => v = (.int .i64 s4137.1 : Value) ∧ s = [], fun f v s => v = (.slice p3552 s4137.2.length c3553 : Value) ∧ s = [], fun f v s => v = (.int .i64 s4137.1 : Value) ∧ s = [], fun f v s => v = (.int .i64 (w64 (s4137.1 - 1)) : Value) ∧ s = [], fun f v s => v = (.slice p3552 s4137.2.length c3553 : Value) ∧ s = [], fun f v s => v = (.int .i64 s4137.1 : Value) ∧ s = [], fun f v s => v = (.int .i64 (w64 (s4137.1 - 1)) : Value) ∧ s = [], fun f v s => v = (elemP p3552 ((w64 (s4137.1 - 1)).toNat * 4) : Value) ∧ s = [], fun f v s => v = (.agg #[.int .i64 y4157.Base, .int .i64 y4157.Size, .int .i64 y4157.Kind, .int .i64 y4157.Unit] : Value) ∧ s = [], fun f v s => v = (.slice p3552 s4137.2.length c3553 : Value) ∧ s = [], fun f v s => v = (.int .i64 s4137.1 : Value) ∧ s = [], fun f v s => v = (elemP p3552 (s4137.1.toNat * 4) : Value) ∧ s = [], fun f v s => v = (.agg #[.int .i64 y4158.Base, .int .i64 y4158.Size, .int .i64 y4158.Kind, .int .i64 y4158.Unit] : Value) ∧ s = [], fun f v s => v = (elemP p3552 (s4137.1.toNat * 4) : Value) ∧ s = [], fun f v s => v = undef ∧ ownS encRegion (s4137.2.set s4137.1.toNat y4157) p3552 c3553 s] : List ((Nat → Value) → Value → Seg → Prop)).getD i (fun _ _ _ => False)) j f v s) [] [2, 4, 13, 15] [15] (fun _ _ _ s h => ⟨s, h⟩) (by kernel_rfl) (by kernel_rfl) M4161 (by kernel_rfl) (by kernel_rfl) (by kernel_rfl) (by kernel_rfl) (allOb_cons ?_ (allOb_cons ?_ (allOb_cons ?_ (allOb_cons ?_ (allOb_cons ?_ (allOb_cons ?_ (allOb_cons ?_ (allOb_cons ?_ (allOb_cons ?_ (allOb_cons ?_ (allOb_cons ?_ (allOb_cons ?_ (allOb_cons ?_ (allOb_cons ?_ (allOb_cons ?_ (allOb_cons ?_ allOb_nil)))))))))))))))) ?_
              · intro g4155 f4156
                intro R w4162 M4163
                refine W_run 1 [(113, .slice p3552 s4137.2.length c3553)] w4162 (by kernel_rfl) ?_
                exact W_nil (ob_end (.slice p3552 s4137.2.length c3553) [] rfl (by kernel_rfl) ⟨by kernel_rfl, rfl⟩ M4163)
              · intro g4155 f4156
                intro R w4166 M4167
                refine W_run 1 [(114, .int .i64 s4137.1)] w4166 (by kernel_rfl) ?_
                exact W_nil (ob_end (.int .i64 s4137.1) [] rfl (by kernel_rfl) ⟨by kernel_rfl, rfl⟩ M4167)
              · intro g4155 f4156
                intro R w4170 M4171
                refine W_run 1 [(115, .slice p3552 s4137.2.length c3553)] w4170 (by kernel_rfl) ?_
                exact W_nil (ob_end (.slice p3552 s4137.2.length c3553) [] rfl (by kernel_rfl) ⟨by kernel_rfl, rfl⟩ M4171)
              · intro g4155 f4156
                intro R w4174 M4175
                refine W_run 1 [(116, .int .i64 s4137.1)] w4174 (by kernel_rfl) ?_
                exact W_nil (ob_end (.int .i64 s4137.1) [] rfl (by kernel_rfl) ⟨by kernel_rfl, rfl⟩ M4175)
              · intro g4155 f4156
                intro v3_ hb3_
                obtain ⟨rfl, _⟩ := hb3_
                intro R w4178 M4179
                refine W_run 1 [(117, .int .i64 (w64 (s4137.1 - 1)))] w4178 (by kernel_rfl) ?_
                exact W_nil (ob_end (.int .i64 (w64 (s4137.1 - 1))) [] rfl (by kernel_rfl) ⟨by kernel_rfl, rfl⟩ M4179)
              · intro g4155 f4156
                intro R w4182 M4183
                refine W_run 1 [(118, .slice p3552 s4137.2.length c3553)] w4182 (by kernel_rfl) ?_
                exact W_nil (ob_end (.slice p3552 s4137.2.length c3553) [] rfl (by kernel_rfl) ⟨by kernel_rfl, rfl⟩ M4183)
              · intro g4155 f4156
                intro R w4186 M4187
                refine W_run 1 [(119, .int .i64 s4137.1)] w4186 (by kernel_rfl) ?_
                exact W_nil (ob_end (.int .i64 s4137.1) [] rfl (by kernel_rfl) ⟨by kernel_rfl, rfl⟩ M4187)
              · intro g4155 f4156
                intro v6_ hb6_
                obtain ⟨rfl, _⟩ := hb6_
                intro R w4190 M4191
                refine W_run 1 [(120, .int .i64 (w64 (s4137.1 - 1)))] w4190 (by kernel_rfl) ?_
                exact W_nil (ob_end (.int .i64 (w64 (s4137.1 - 1))) [] rfl (by kernel_rfl) ⟨by kernel_rfl, rfl⟩ M4191)
              · intro g4155 f4156
                intro v5_ hb5_
                obtain ⟨rfl, _⟩ := hb5_
                intro v7_ hb7_
                obtain ⟨rfl, _⟩ := hb7_
                intro R w4194 M4195
                refine W_val (elemP p3552 ((w64 (s4137.1 - 1)).toNat * 4)) w4194 (by kernel_rfl) (E_index (E := encRegion) _ _ _ s4137.2.length c3553 .i64 (w64 (s4137.1 - 1)) 4 (y := y4157) rfl (by kernel_rfl) (by kernel_rfl) (by kernel_rfl) (ho4148.rd M4195 1 (by kernel_rfl)) rfl hy4157) ?_
                exact W_nil (ob_end (elemP p3552 ((w64 (s4137.1 - 1)).toNat * 4)) [] rfl (by kernel_rfl) ⟨by kernel_rfl, rfl⟩ M4195)
              · intro g4155 f4156
                intro v8_ hb8_
                obtain ⟨rfl, _⟩ := hb8_
                intro R w4198 M4199
                refine W_val (.agg #[.int .i64 y4157.Base, .int .i64 y4157.Size, .int .i64 y4157.Kind, .int .i64 y4157.Unit]) w4198 (by kernel_rfl) (E_loadE (E := encRegion) _ _ true 4 (w64 (s4137.1 - 1)) 0 ((w64 (s4137.1 - 1)).toNat * 4) y4157 (.agg #[.int .i64 y4157.Base, .int .i64 y4157.Size, .int .i64 y4157.Kind, .int .i64 y4157.Unit]) rfl (by kernel_rfl) (by kernel_rfl) (by kernel_rfl) (ho4148.rd M4199 1 (by kernel_rfl)) hy4157 rfl) ?_
                exact W_nil (ob_end (.agg #[.int .i64 y4157.Base, .int .i64 y4157.Size, .int .i64 y4157.Kind, .int .i64 y4157.Unit]) [] rfl (by kernel_rfl) ⟨by kernel_rfl, rfl⟩ M4199)
              · intro g4155 f4156
                intro R w4202 M4203
                refine W_run 1 [(123, .slice p3552 s4137.2.length c3553)] w4202 (by kernel_rfl) ?_
                exact W_nil (ob_end (.slice p3552 s4137.2.length c3553) [] rfl (by kernel_rfl) ⟨by kernel_rfl, rfl⟩ M4203)
              · intro g4155 f4156
                intro R w4206 M4207
                refine W_run 1 [(124, .int .i64 s4137.1)] w4206 (by kernel_rfl) ?_
                exact W_nil (ob_end (.int .i64 s4137.1) [] rfl (by kernel_rfl) ⟨by kernel_rfl, rfl⟩ M4207)
              · intro g4155 f4156
                intro v10_ hb10_
                obtain ⟨rfl, _⟩ := hb10_
                intro v11_ hb11_
                obtain ⟨rfl, _⟩ := hb11_
                intro R w4210 M4211
                refine W_val (elemP p3552 (s4137.1.toNat * 4)) w4210 (by kernel_rfl) (E_index (E := encRegion) _ _ _ s4137.2.length c3553 .i64 s4137.1 4 (y := y4158) rfl (by kernel_rfl) (by kernel_rfl) (by kernel_rfl) (ho4148.rd M4211 1 (by kernel_rfl)) rfl hy4158) ?_
                exact W_nil (ob_end (elemP p3552 (s4137.1.toNat * 4)) [] rfl (by kernel_rfl) ⟨by kernel_rfl, rfl⟩ M4211)
              · intro g4155 f4156
                intro v12_ hb12_
                obtain ⟨rfl, _⟩ := hb12_
                intro R w4214 M4215
                refine W_val (.agg #[.int .i64 y4158.Base, .int .i64 y4158.Size, .int .i64 y4158.Kind, .int .i64 y4158.Unit]) w4214 (by kernel_rfl) (E_loadE (E := encRegion) _ _ true 4 s4137.1 0 (s4137.1.toNat * 4) y4158 (.agg #[.int .i64 y4158.Base, .int .i64 y4158.Size, .int .i64 y4158.Kind, .int .i64 y4158.Unit]) rfl (by kernel_rfl) (by kernel_rfl) (by kernel_rfl) (ho4148.rd M4215 1 (by kernel_rfl)) hy4158 rfl) ?_
                exact W_nil (ob_end (.agg #[.int .i64 y4158.Base, .int .i64 y4158.Size, .int .i64 y4158.Kind, .int .i64 y4158.Unit]) [] rfl (by kernel_rfl) ⟨by kernel_rfl, rfl⟩ M4215)
              · intro g4155 f4156
                intro v0_ hb0_
                obtain ⟨rfl, _⟩ := hb0_
                intro v1_ hb1_
                obtain ⟨rfl, _⟩ := hb1_
                intro R w4218 M4219
                refine W_val (elemP p3552 (s4137.1.toNat * 4)) w4218 (by kernel_rfl) (E_index (E := encRegion) _ _ _ s4137.2.length c3553 .i64 s4137.1 4 (y := y4159) rfl (by kernel_rfl) (by kernel_rfl) (by kernel_rfl) (ho4148.rd M4219 1 (by kernel_rfl)) rfl hy4159) ?_
                exact W_nil (ob_end (elemP p3552 (s4137.1.toNat * 4)) [] rfl (by kernel_rfl) ⟨by kernel_rfl, rfl⟩ M4219)
              · intro g4155 f4156
                intro v9_ hb9_
                obtain ⟨rfl, _⟩ := hb9_
                intro v14_ hb14_
                obtain ⟨rfl, _⟩ := hb14_
                intro R w4222 M4223
                refine W_storeE (E := encRegion) _ _ _ true 4 s4137.1.toNat 0 (s4137.1.toNat * 4) y4159 y4157 (.agg #[.int .i64 y4157.Base, .int .i64 y4157.Size, .int .i64 y4157.Kind, .int .i64 y4157.Unit]) 0 M4223 ho4148 (by kernel_rfl) (by kernel_rfl) rfl (by kernel_rfl) (by kernel_rfl) (by kernel_rfl) (by kernel_rfl) (by kernel_rfl) (by kernel_rfl) (by kernel_rfl) (gxIdx_spec hy4159).2 rfl ?_
                intro w4224 sg4226 ho4227 M4225
                exact W_nil (ob_none sg4226 rfl ⟨rfl, ho4227⟩ M4225)
              · intro g4155 f4156
                intro v2_ hb2_
                obtain ⟨rfl, _⟩ := hb2_
                intro v4_ hb4_
                obtain ⟨rfl, _⟩ := hb4_
                intro v13_ hb13_
                obtain ⟨rfl, _⟩ := hb13_
                intro v15_ hb15_
                obtain ⟨rfl, ho4160⟩ := hb15_
                intro w4228 M4229
                have M4230 : Mem (idsOf [sg3554]) w w4228 [(g4155 15)] := M4229
                refine W_conv 0 (.slice p3552 s4137.2.length c3553) (.slice p3552 (s4137.2.set s4137.1.toNat y4157).length c3553) (by kernel_rfl) (by rw [@List.length_set _ s4137.2 s4137.1.toNat y4157]) ?_
                refine W_conv 115 (.slice p3552 s4137.2.length c3553) (.slice p3552 (s4137.2.set s4137.1.toNat y4157).length c3553) (by kernel_rfl) (by rw [@List.length_set _ s4137.2 s4137.1.toNat y4157]) ?_
                obtain ⟨y4231, hy4231, hm⟩ := gx_bind hm
                refine W_val (elemP p3552 ((w64 (s4137.1 - 1)).toNat * 4)) w4228 (by kernel_rfl) (E_index (E := encRegion) _ _ _ (s4137.2.set s4137.1.toNat y4157).length c3553 .i64 (w64 (s4137.1 - 1)) 4 (y := y4231) rfl (by kernel_rfl) (by kernel_rfl) (by kernel_rfl) (ho4160.rd M4230 0 (by kernel_rfl)) rfl hy4231) ?_
                refine W_storeE (E := encRegion) _ _ _ true 4 (w64 (s4137.1 - 1)).toNat 0 ((w64 (s4137.1 - 1)).toNat * 4) y4231 y4158 (.agg #[.int .i64 y4158.Base, .int .i64 y4158.Size, .int .i64 y4158.Kind, .int .i64 y4158.Unit]) 0 M4230 ho4160 (by kernel_rfl) (by kernel_rfl) rfl (by kernel_rfl) (by kernel_rfl) (by kernel_rfl) (by kernel_rfl) (by kernel_rfl) (by kernel_rfl) (by kernel_rfl) (gxIdx_spec hy4231).2 rfl ?_
                intro w4232 sg4234 ho4235 M4233
                refine W_conv 0 (.slice p3552 (s4137.2.set s4137.1.toNat y4157).length c3553) (.slice p3552 ((s4137.2.set s4137.1.toNat y4157).set (w64 (s4137.1 - 1)).toNat y4158).length c3553) (by kernel_rfl) (by rw [@List.length_set _ (s4137.2.set s4137.1.toNat y4157) ((w64 (s4137.1 - 1)).toNat) y4158]) ?_
                refine W_conv 115 (.slice p3552 (s4137.2.set s4137.1.toNat y4157).length c3553) (.slice p3552 ((s4137.2.set s4137.1.toNat y4157).set (w64 (s4137.1 - 1)).toNat y4158).length c3553) (by kernel_rfl) (by rw [@List.length_set _ (s4137.2.set s4137.1.toNat y4157) ((w64 (s4137.1 - 1)).toNat) y4158]) ?_
                refine W_nil ?_
                refine N_block ?_
                refine N_then ?_
                refine G_region ?_
                refine W_run 3 [(0, .slice p3552 ((s4137.2.set s4137.1.toNat y4157).set (w64 (s4137.1 - 1)).toNat y4158).length c3553), (14, .int .i64 out3944), (17, .int .i64 (w64 (s4137.1 - 1)))] w4232 (by kernel_rfl) ?_
                refine W_nil ?_
                obtain rfl := Option.some.inj hm
                exact N_loop fun a ha => ⟨_, rfl, sg4234, ho4235, (List.length_set.trans (List.length_set.trans hl4149)), M4233.pick [0] (by kernel_rfl), ha.sub (by kernel_rfl)⟩
            · refine G_cond_f (b := (decide (s4137.1 > out3944))) hc4154 (by kernel_rfl) ?_
              refine G_exit ?_
              refine N_then_exit ?_
              refine N_then_exit ?_
              refine N_block_eq ?_
              obtain rfl := Option.some.inj hm
              obtain rfl := hout4139 _ rfl
              exact N_meet fun a ha => ⟨sg4147, ho4148, hl4149, M4142.pick [0] (by kernel_rfl), ha.sub (by kernel_rfl)⟩
          · intro a4236 w4237 ⟨sg4151, ho4152, hl4153, M4238, hS4239⟩
            refine N_use hS4239 ?_
            have hm := hmo4146
            refine N_then ?_
            refine G_ret ?_
            refine N_then_ret ?_
            obtain rfl := Option.some.inj hm
            refine N_ret [] (RVs_nil) ?_
            exact ⟨sg4151, rfl, ho4152, hl4153, M4238.pick [0] (by kernel_rfl)⟩
      · refine G_cond_f (b := ((w64 (x3558 - x3557)) == 1)) hc3900 (by kernel_rfl) ?_
        refine G_skip ?_
        refine N_then ?_
        refine G_seq ?_
        refine G_region ?_
        refine W_run 7 [(0, .slice p3552 x3550.length c3553), (1, .int .i64 x3556), (2, .int .i64 x3557), (3, .int .i64 x3558), (4, .func (.func 90) #[] #[]), (18, .int .i64 (w64 ((IntKind.u64.wrap (w64 (x3556 + x3558))).fdiv (2 ^ 1))))] w (by kernel_rfl) ?_
        refine W_nil ?_
        refine N_then ?_
        refine G_seq ?_
        refine G_region ?_
        refine W_run 4 [(0, .slice p3552 x3550.length c3553), (1, .int .i64 x3556), (2, .int .i64 x3557), (3, .int .i64 x3558), (4, .func (.func 90) #[] #[]), (18, .int .i64 (w64 ((IntKind.u64.wrap (w64 (x3556 + x3558))).fdiv (2 ^ 1)))), (19, .int .i64 (w64 ((w64 ((IntKind.u64.wrap (w64 (x3556 + x3558))).fdiv (2 ^ 1))) + x3557)))] w (by kernel_rfl) ?_
        refine W_nil ?_
        refine N_then ?_
        refine G_seq ?_
        refine G_region ?_
        refine W_run 2 [(0, .slice p3552 x3550.length c3553), (1, .int .i64 x3556), (2, .int .i64 x3557), (3, .int .i64 x3558), (4, .func (.func 90) #[] #[]), (18, .int .i64 (w64 ((IntKind.u64.wrap (w64 (x3556 + x3558))).fdiv (2 ^ 1)))), (19, .int .i64 (w64 ((w64 ((IntKind.u64.wrap (w64 (x3556 + x3558))).fdiv (2 ^ 1))) + x3557)))] w (by kernel_rfl) ?_
        refine W_nil ?_
        refine N_then ?_
        refine G_seq ?_
        refine G_seq ?_
        refine G_region ?_
        refine W_run 3 [(0, .slice p3552 x3550.length c3553), (1, .int .i64 x3556), (2, .int .i64 x3557), (3, .int .i64 x3558), (4, .func (.func 90) #[] #[]), (18, .int .i64 (w64 ((IntKind.u64.wrap (w64 (x3556 + x3558))).fdiv (2 ^ 1)))), (19, .int .i64 (w64 ((w64 ((IntKind.u64.wrap (w64 (x3556 + x3558))).fdiv (2 ^ 1))) + x3557))), (140, .bool (decide (x3557 > (w64 ((IntKind.u64.wrap (w64 (x3556 + x3558))).fdiv (2 ^ 1))))))] w (by kernel_rfl) ?_
        refine W_nil ?_
        refine N_then ?_
        obtain ⟨o4241, ho4242, hm4243⟩ := gx_bind hm
        refine G_meet (fun a w' => Mem (idsOf [sg3554]) w w' [sg3554] ∧ Sat Try.f97.ntmps [(0, .slice p3552 x3550.length c3553), (1, .int .i64 x3556), (2, .int .i64 x3557), (3, .int .i64 x3558), (4, .func (.func 90) #[] #[]), (18, .int .i64 (w64 ((IntKind.u64.wrap (w64 (x3556 + x3558))).fdiv (2 ^ 1)))), (19, .int .i64 (w64 ((w64 ((IntKind.u64.wrap (w64 (x3556 + x3558))).fdiv (2 ^ 1))) + x3557))), (20, .int .i64 o4241.1), (21, .int .i64 o4241.2)] a) ?_ ?_
        · have hm := ho4242
          rcases gx_bif hm with ⟨hc4244, hm⟩ | ⟨hc4244, hm⟩
          · refine G_cond_t (b := (decide (x3557 > (w64 ((IntKind.u64.wrap (w64 (x3556 + x3558))).fdiv (2 ^ 1)))))) hc4244 (by kernel_rfl) ?_
            refine G_seq ?_
            refine G_region ?_
            refine W_run 4 [(0, .slice p3552 x3550.length c3553), (1, .int .i64 x3556), (2, .int .i64 x3557), (3, .int .i64 x3558), (4, .func (.func 90) #[] #[]), (18, .int .i64 (w64 ((IntKind.u64.wrap (w64 (x3556 + x3558))).fdiv (2 ^ 1)))), (19, .int .i64 (w64 ((w64 ((IntKind.u64.wrap (w64 (x3556 + x3558))).fdiv (2 ^ 1))) + x3557))), (20, .int .i64 (w64 ((w64 ((w64 ((IntKind.u64.wrap (w64 (x3556 + x3558))).fdiv (2 ^ 1))) + x3557)) - x3558)))] w (by kernel_rfl) ?_
            refine W_nil ?_
            refine N_then ?_
            refine G_region ?_
            refine W_run 2 [(0, .slice p3552 x3550.length c3553), (1, .int .i64 x3556), (2, .int .i64 x3557), (3, .int .i64 x3558), (4, .func (.func 90) #[] #[]), (18, .int .i64 (w64 ((IntKind.u64.wrap (w64 (x3556 + x3558))).fdiv (2 ^ 1)))), (19, .int .i64 (w64 ((w64 ((IntKind.u64.wrap (w64 (x3556 + x3558))).fdiv (2 ^ 1))) + x3557))), (20, .int .i64 (w64 ((w64 ((w64 ((IntKind.u64.wrap (w64 (x3556 + x3558))).fdiv (2 ^ 1))) + x3557)) - x3558))), (21, .int .i64 (w64 ((IntKind.u64.wrap (w64 (x3556 + x3558))).fdiv (2 ^ 1))))] w (by kernel_rfl) ?_
            refine W_nil ?_
            obtain rfl := Option.some.inj hm
            exact N_meet fun a ha => ⟨M0.pick [0] (by kernel_rfl), ha.sub (by kernel_rfl)⟩
          · refine G_cond_f (b := (decide (x3557 > (w64 ((IntKind.u64.wrap (w64 (x3556 + x3558))).fdiv (2 ^ 1)))))) hc4244 (by kernel_rfl) ?_
            refine G_seq ?_
            refine G_region ?_
            refine W_run 2 [(0, .slice p3552 x3550.length c3553), (1, .int .i64 x3556), (2, .int .i64 x3557), (3, .int .i64 x3558), (4, .func (.func 90) #[] #[]), (18, .int .i64 (w64 ((IntKind.u64.wrap (w64 (x3556 + x3558))).fdiv (2 ^ 1)))), (19, .int .i64 (w64 ((w64 ((IntKind.u64.wrap (w64 (x3556 + x3558))).fdiv (2 ^ 1))) + x3557))), (20, .int .i64 x3556)] w (by kernel_rfl) ?_
            refine W_nil ?_
            refine N_then ?_
            refine G_region ?_
            refine W_run 2 [(0, .slice p3552 x3550.length c3553), (1, .int .i64 x3556), (2, .int .i64 x3557), (3, .int .i64 x3558), (4, .func (.func 90) #[] #[]), (18, .int .i64 (w64 ((IntKind.u64.wrap (w64 (x3556 + x3558))).fdiv (2 ^ 1)))), (19, .int .i64 (w64 ((w64 ((IntKind.u64.wrap (w64 (x3556 + x3558))).fdiv (2 ^ 1))) + x3557))), (20, .int .i64 x3556), (21, .int .i64 x3557)] w (by kernel_rfl) ?_
            refine W_nil ?_
            obtain rfl := Option.some.inj hm
            exact N_meet fun a ha => ⟨M0.pick [0] (by kernel_rfl), ha.sub (by kernel_rfl)⟩
        · intro a4247 w4245 ⟨M4246, hS4248⟩
          refine N_use hS4248 ?_
          have hm := hm4243
          refine N_then ?_
          refine G_seq ?_
          refine G_region ?_
          refine W_run 3 [(0, .slice p3552 x3550.length c3553), (1, .int .i64 x3556), (2, .int .i64 x3557), (3, .int .i64 x3558), (4, .func (.func 90) #[] #[]), (18, .int .i64 (w64 ((IntKind.u64.wrap (w64 (x3556 + x3558))).fdiv (2 ^ 1)))), (19, .int .i64 (w64 ((w64 ((IntKind.u64.wrap (w64 (x3556 + x3558))).fdiv (2 ^ 1))) + x3557))), (20, .int .i64 o4241.1), (21, .int .i64 o4241.2), (22, .int .i64 (w64 ((w64 ((w64 ((IntKind.u64.wrap (w64 (x3556 + x3558))).fdiv (2 ^ 1))) + x3557)) - 1)))] w4245 (by kernel_rfl) ?_
          refine W_nil ?_
          refine N_then ?_
          refine G_seq ?_
          obtain ⟨out4292, hw4293, hmo4294⟩ := gx_bind hm
          refine G_meet (fun a w' => Mem (idsOf [sg3554]) w w' [sg3554] ∧ Sat Try.f97.ntmps [(0, .slice p3552 x3550.length c3553), (1, .int .i64 x3556), (2, .int .i64 x3557), (3, .int .i64 x3558), (4, .func (.func 90) #[] #[]), (18, .int .i64 (w64 ((IntKind.u64.wrap (w64 (x3556 + x3558))).fdiv (2 ^ 1)))), (19, .int .i64 (w64 ((w64 ((IntKind.u64.wrap (w64 (x3556 + x3558))).fdiv (2 ^ 1))) + x3557))), (20, .int .i64 out4292)] a) ?_ ?_
          · refine G_block ?_
            refine G_while (σ := Int × Int) (ρ := Int) (fun s4285 a w' => Mem (idsOf [sg3554]) w w' [sg3554] ∧ Sat Try.f97.ntmps [(0, .slice p3552 x3550.length c3553), (1, .int .i64 x3556), (2, .int .i64 x3557), (3, .int .i64 x3558), (4, .func (.func 90) #[] #[]), (18, .int .i64 (w64 ((IntKind.u64.wrap (w64 (x3556 + x3558))).fdiv (2 ^ 1)))), (19, .int .i64 (w64 ((w64 ((IntKind.u64.wrap (w64 (x3556 + x3558))).fdiv (2 ^ 1))) + x3557))), (20, .int .i64 s4285.1), (21, .int .i64 s4285.2), (22, .int .i64 (w64 ((w64 ((w64 ((IntKind.u64.wrap (w64 (x3556 + x3558))).fdiv (2 ^ 1))) + x3557)) - 1)))] a) hw4293 (fun a ha => ⟨M4246.pick [0] (by kernel_rfl), ha.sub (by kernel_rfl)⟩) ?_
            clear hm
            intro s4285 x4286 hm hout4287 a4288 w4289 ⟨M4290, hS4291⟩
            refine G_use hS4291 ?_
            refine G_seq ?_
            refine G_seq ?_
            refine G_region ?_
            refine W_run 3 [(0, .slice p3552 x3550.length c3553), (1, .int .i64 x3556), (2, .int .i64 x3557), (3, .int .i64 x3558), (4, .func (.func 90) #[] #[]), (18, .int .i64 (w64 ((IntKind.u64.wrap (w64 (x3556 + x3558))).fdiv (2 ^ 1)))), (19, .int .i64 (w64 ((w64 ((IntKind.u64.wrap (w64 (x3556 + x3558))).fdiv (2 ^ 1))) + x3557))), (20, .int .i64 s4285.1), (21, .int .i64 s4285.2), (22, .int .i64 (w64 ((w64 ((w64 ((IntKind.u64.wrap (w64 (x3556 + x3558))).fdiv (2 ^ 1))) + x3557)) - 1))), (151, .bool (decide (s4285.1 < s4285.2)))] w4289 (by kernel_rfl) ?_
            refine W_nil ?_
            refine N_then ?_
            rcases gx_bif hm with ⟨hc4296, hm⟩ | ⟨hc4296, hm⟩
            · refine G_cond_t (b := (decide (s4285.1 < s4285.2))) hc4296 (by kernel_rfl) ?_
              refine G_skip ?_
              refine N_then ?_
              refine G_block ?_
              refine G_seq ?_
              refine G_region ?_
              refine W_run 7 [(0, .slice p3552 x3550.length c3553), (1, .int .i64 x3556), (2, .int .i64 x3557), (3, .int .i64 x3558), (4, .func (.func 90) #[] #[]), (18, .int .i64 (w64 ((IntKind.u64.wrap (w64 (x3556 + x3558))).fdiv (2 ^ 1)))), (19, .int .i64 (w64 ((w64 ((IntKind.u64.wrap (w64 (x3556 + x3558))).fdiv (2 ^ 1))) + x3557))), (20, .int .i64 s4285.1), (21, .int .i64 s4285.2), (22, .int .i64 (w64 ((w64 ((w64 ((IntKind.u64.wrap (w64 (x3556 + x3558))).fdiv (2 ^ 1))) + x3557)) - 1))), (23, .int .i64 (w64 ((IntKind.u64.wrap (w64 (s4285.1 + s4285.2))).fdiv (2 ^ 1))))] w4289 (by kernel_rfl) ?_
              refine W_nil ?_
              refine N_then ?_
              refine G_seq ?_
              refine G_quiet (by kernel_rfl) (by kernel_rfl) M4290 ?_
              refine Z_runs [.func (.func 90) #[] #[], .slice p3552 x3550.length c3553, .int .i64 (w64 ((w64 ((w64 ((IntKind.u64.wrap (w64 (x3556 + x3558))).fdiv (2 ^ 1))) + x3557)) - 1)), .int .i64 (w64 ((IntKind.u64.wrap (w64 (s4285.1 + s4285.2))).fdiv (2 ^ 1))), .int .i64 (w64 ((w64 ((w64 ((w64 ((IntKind.u64.wrap (w64 (x3556 + x3558))).fdiv (2 ^ 1))) + x3557)) - 1)) - (w64 ((IntKind.u64.wrap (w64 (s4285.1 + s4285.2))).fdiv (2 ^ 1)))))] [(0, .slice p3552 x3550.length c3553), (1, .int .i64 x3556), (2, .int .i64 x3557), (3, .int .i64 x3558), (4, .func (.func 90) #[] #[]), (18, .int .i64 (w64 ((IntKind.u64.wrap (w64 (x3556 + x3558))).fdiv (2 ^ 1)))), (19, .int .i64 (w64 ((w64 ((IntKind.u64.wrap (w64 (x3556 + x3558))).fdiv (2 ^ 1))) + x3557))), (20, .int .i64 s4285.1), (21, .int .i64 s4285.2), (22, .int .i64 (w64 ((w64 ((w64 ((IntKind.u64.wrap (w64 (x3556 + x3558))).fdiv (2 ^ 1))) + x3557)) - 1))), (23, .int .i64 (w64 ((IntKind.u64.wrap (w64 (s4285.1 + s4285.2))).fdiv (2 ^ 1)))), (158, .func (.func 90) #[] #[]), (159, .slice p3552 x3550.length c3553), (162, .int .i64 (w64 ((w64 ((w64 ((w64 ((IntKind.u64.wrap (w64 (x3556 + x3558))).fdiv (2 ^ 1))) + x3557)) - 1)) - (w64 ((IntKind.u64.wrap (w64 (s4285.1 + s4285.2))).fdiv (2 ^ 1))))))] (fun w_ => by kernel_rfl) (by kernel_rfl) ?_
              obtain ⟨y4297, hy4297, hm⟩ := gx_bind hm
              refine Z_val (elemP p3552 ((w64 ((w64 ((w64 ((w64 ((IntKind.u64.wrap (w64 (x3556 + x3558))).fdiv (2 ^ 1))) + x3557)) - 1)) - (w64 ((IntKind.u64.wrap (w64 (s4285.1 + s4285.2))).fdiv (2 ^ 1))))).toNat * 4)) (by kernel_rfl) (fun w_ M_ => (E_index (E := encRegion) _ _ _ x3550.length c3553 .i64 (w64 ((w64 ((w64 ((w64 ((IntKind.u64.wrap (w64 (x3556 + x3558))).fdiv (2 ^ 1))) + x3557)) - 1)) - (w64 ((IntKind.u64.wrap (w64 (s4285.1 + s4285.2))).fdiv (2 ^ 1))))) 4 (y := y4297) rfl (by kernel_rfl) (by kernel_rfl) (by kernel_rfl) (ho3555.rd M_ 0 (by kernel_rfl)) rfl hy4297)) ?_
              refine Z_val (.agg #[.int .i64 y4297.Base, .int .i64 y4297.Size, .int .i64 y4297.Kind, .int .i64 y4297.Unit]) (by kernel_rfl) (fun w_ M_ => (E_loadE (E := encRegion) _ _ true 4 (w64 ((w64 ((w64 ((w64 ((IntKind.u64.wrap (w64 (x3556 + x3558))).fdiv (2 ^ 1))) + x3557)) - 1)) - (w64 ((IntKind.u64.wrap (w64 (s4285.1 + s4285.2))).fdiv (2 ^ 1))))) 0 ((w64 ((w64 ((w64 ((w64 ((IntKind.u64.wrap (w64 (x3556 + x3558))).fdiv (2 ^ 1))) + x3557)) - 1)) - (w64 ((IntKind.u64.wrap (w64 (s4285.1 + s4285.2))).fdiv (2 ^ 1))))).toNat * 4) y4297 (.agg #[.int .i64 y4297.Base, .int .i64 y4297.Size, .int .i64 y4297.Kind, .int .i64 y4297.Unit]) rfl (by kernel_rfl) (by kernel_rfl) (by kernel_rfl) (ho3555.rd M_ 0 (by kernel_rfl)) hy4297 rfl)) ?_
              refine Z_runs [.slice p3552 x3550.length c3553, .int .i64 (w64 ((IntKind.u64.wrap (w64 (s4285.1 + s4285.2))).fdiv (2 ^ 1)))] [(0, .slice p3552 x3550.length c3553), (1, .int .i64 x3556), (2, .int .i64 x3557), (3, .int .i64 x3558), (4, .func (.func 90) #[] #[]), (18, .int .i64 (w64 ((IntKind.u64.wrap (w64 (x3556 + x3558))).fdiv (2 ^ 1)))), (19, .int .i64 (w64 ((w64 ((IntKind.u64.wrap (w64 (x3556 + x3558))).fdiv (2 ^ 1))) + x3557))), (20, .int .i64 s4285.1), (21, .int .i64 s4285.2), (22, .int .i64 (w64 ((w64 ((w64 ((IntKind.u64.wrap (w64 (x3556 + x3558))).fdiv (2 ^ 1))) + x3557)) - 1))), (23, .int .i64 (w64 ((IntKind.u64.wrap (w64 (s4285.1 + s4285.2))).fdiv (2 ^ 1)))), (158, .func (.func 90) #[] #[]), (164, .agg #[.int .i64 y4297.Base, .int .i64 y4297.Size, .int .i64 y4297.Kind, .int .i64 y4297.Unit]), (165, .slice p3552 x3550.length c3553), (166, .int .i64 (w64 ((IntKind.u64.wrap (w64 (s4285.1 + s4285.2))).fdiv (2 ^ 1))))] (fun w_ => by kernel_rfl) (by kernel_rfl) ?_
              obtain ⟨y4298, hy4298, hm⟩ := gx_bind hm
              refine Z_val (elemP p3552 ((w64 ((IntKind.u64.wrap (w64 (s4285.1 + s4285.2))).fdiv (2 ^ 1))).toNat * 4)) (by kernel_rfl) (fun w_ M_ => (E_index (E := encRegion) _ _ _ x3550.length c3553 .i64 (w64 ((IntKind.u64.wrap (w64 (s4285.1 + s4285.2))).fdiv (2 ^ 1))) 4 (y := y4298) rfl (by kernel_rfl) (by kernel_rfl) (by kernel_rfl) (ho3555.rd M_ 0 (by kernel_rfl)) rfl hy4298)) ?_
              refine Z_val (.agg #[.int .i64 y4298.Base, .int .i64 y4298.Size, .int .i64 y4298.Kind, .int .i64 y4298.Unit]) (by kernel_rfl) (fun w_ M_ => (E_loadE (E := encRegion) _ _ true 4 (w64 ((IntKind.u64.wrap (w64 (s4285.1 + s4285.2))).fdiv (2 ^ 1))) 0 ((w64 ((IntKind.u64.wrap (w64 (s4285.1 + s4285.2))).fdiv (2 ^ 1))).toNat * 4) y4298 (.agg #[.int .i64 y4298.Base, .int .i64 y4298.Size, .int .i64 y4298.Kind, .int .i64 y4298.Unit]) rfl (by kernel_rfl) (by kernel_rfl) (by kernel_rfl) (ho3555.rd M_ 0 (by kernel_rfl)) hy4298 rfl)) ?_
              obtain ⟨r4299, hr4299, hm⟩ := gx_bind hm
              refine Z_call 90 #[.agg #[.int .i64 y4297.Base, .int .i64 y4297.Size, .int .i64 y4297.Kind, .int .i64 y4297.Unit], .agg #[.int .i64 y4298.Base, .int .i64 y4298.Size, .int .i64 y4298.Kind, .int .i64 y4298.Unit]] (.int .i64 r4299) (by kernel_rfl) (fun w_ => by kernel_rfl) (fun w_ M_ => (c_i_asMap_1 w_ y4297 y4298 hr4299).mono fun e w2_ h_ => ⟨h_.1, M_.call0 h_.2⟩) ?_
              refine Z_runs [.bool (decide (r4299 < 0)), .bool (!(decide (r4299 < 0)))] [(0, .slice p3552 x3550.length c3553), (1, .int .i64 x3556), (2, .int .i64 x3557), (3, .int .i64 x3558), (4, .func (.func 90) #[] #[]), (18, .int .i64 (w64 ((IntKind.u64.wrap (w64 (x3556 + x3558))).fdiv (2 ^ 1)))), (19, .int .i64 (w64 ((w64 ((IntKind.u64.wrap (w64 (x3556 + x3558))).fdiv (2 ^ 1))) + x3557))), (20, .int .i64 s4285.1), (21, .int .i64 s4285.2), (22, .int .i64 (w64 ((w64 ((w64 ((IntKind.u64.wrap (w64 (x3556 + x3558))).fdiv (2 ^ 1))) + x3557)) - 1))), (23, .int .i64 (w64 ((IntKind.u64.wrap (w64 (s4285.1 + s4285.2))).fdiv (2 ^ 1)))), (171, .bool (!(decide (r4299 < 0))))] (fun w_ => by kernel_rfl) (by kernel_rfl) ?_
              refine Z_end fun w4303 M4304 => ?_
              refine N_then ?_
              obtain ⟨o4306, ho4307, hm4308⟩ := gx_bind hm
              refine G_meet (fun a w' => Mem (idsOf [sg3554]) w w' [sg3554] ∧ Sat Try.f97.ntmps [(0, .slice p3552 x3550.length c3553), (1, .int .i64 x3556), (2, .int .i64 x3557), (3, .int .i64 x3558), (4, .func (.func 90) #[] #[]), (18, .int .i64 (w64 ((IntKind.u64.wrap (w64 (x3556 + x3558))).fdiv (2 ^ 1)))), (19, .int .i64 (w64 ((w64 ((IntKind.u64.wrap (w64 (x3556 + x3558))).fdiv (2 ^ 1))) + x3557))), (20, .int .i64 o4306.1), (21, .int .i64 o4306.2), (22, .int .i64 (w64 ((w64 ((w64 ((IntKind.u64.wrap (w64 (x3556 + x3558))).fdiv (2 ^ 1))) + x3557)) - 1)))] a) ?_ ?_
              · have hm := ho4307
                rcases gx_bif hm with ⟨hc4309, hm⟩ | ⟨hc4309, hm⟩
                · refine G_cond_t (b := (!(decide (r4299 < 0)))) hc4309 (by kernel_rfl) ?_
                  refine G_region ?_
                  refine W_run 3 [(0, .slice p3552 x3550.length c3553), (1, .int .i64 x3556), (2, .int .i64 x3557), (3, .int .i64 x3558), (4, .func (.func 90) #[] #[]), (18, .int .i64 (w64 ((IntKind.u64.wrap (w64 (x3556 + x3558))).fdiv (2 ^ 1)))), (19, .int .i64 (w64 ((w64 ((IntKind.u64.wrap (w64 (x3556 + x3558))).fdiv (2 ^ 1))) + x3557))), (20, .int .i64 (w64 ((w64 ((IntKind.u64.wrap (w64 (s4285.1 + s4285.2))).fdiv (2 ^ 1))) + 1))), (21, .int .i64 s4285.2), (22, .int .i64 (w64 ((w64 ((w64 ((IntKind.u64.wrap (w64 (x3556 + x3558))).fdiv (2 ^ 1))) + x3557)) - 1)))] w4303 (by kernel_rfl) ?_
                  refine W_nil ?_
                  obtain rfl := Option.some.inj hm
                  exact N_meet fun a ha => ⟨M4304.pick [0] (by kernel_rfl), ha.sub (by kernel_rfl)⟩
                · refine G_cond_f (b := (!(decide (r4299 < 0)))) hc4309 (by kernel_rfl) ?_
                  refine G_region ?_
                  refine W_run 2 [(0, .slice p3552 x3550.length c3553), (1, .int .i64 x3556), (2, .int .i64 x3557), (3, .int .i64 x3558), (4, .func (.func 90) #[] #[]), (18, .int .i64 (w64 ((IntKind.u64.wrap (w64 (x3556 + x3558))).fdiv (2 ^ 1)))), (19, .int .i64 (w64 ((w64 ((IntKind.u64.wrap (w64 (x3556 + x3558))).fdiv (2 ^ 1))) + x3557))), (20, .int .i64 s4285.1), (21, .int .i64 (w64 ((IntKind.u64.wrap (w64 (s4285.1 + s4285.2))).fdiv (2 ^ 1)))), (22, .int .i64 (w64 ((w64 ((w64 ((IntKind.u64.wrap (w64 (x3556 + x3558))).fdiv (2 ^ 1))) + x3557)) - 1)))] w4303 (by kernel_rfl) ?_
                  refine W_nil ?_
                  obtain rfl := Option.some.inj hm
                  exact N_meet fun a ha => ⟨M4304.pick [0] (by kernel_rfl), ha.sub (by kernel_rfl)⟩
              · intro a4312 w4310 ⟨M4311, hS4313⟩
                refine N_use hS4313 ?_
                have hm := hm4308
                refine N_block ?_
                obtain rfl := Option.some.inj hm
                exact N_loop fun a ha => ⟨_, rfl, M4311.pick [0] (by kernel_rfl), ha.sub (by kernel_rfl)⟩
            · refine G_cond_f (b := (decide (s4285.1 < s4285.2))) hc4296 (by kernel_rfl) ?_
              refine G_exit ?_
              refine N_then_exit ?_
              refine N_then_exit ?_
              refine N_block_eq ?_
              obtain rfl := Option.some.inj hm
              obtain rfl := hout4287 _ rfl
              exact N_meet fun a ha => ⟨M4290.pick [0] (by kernel_rfl), ha.sub (by kernel_rfl)⟩
          · intro a4314 w4315 ⟨M4316, hS4317⟩
            refine N_use hS4317 ?_
            have hm := hmo4294
            refine N_then ?_
            refine G_seq ?_
            refine G_region ?_
            refine W_run 4 [(0, .slice p3552 x3550.length c3553), (1, .int .i64 x3556), (2, .int .i64 x3557), (3, .int .i64 x3558), (4, .func (.func 90) #[] #[]), (18, .int .i64 (w64 ((IntKind.u64.wrap (w64 (x3556 + x3558))).fdiv (2 ^ 1)))), (20, .int .i64 out4292), (24, .int .i64 (w64 ((w64 ((w64 ((IntKind.u64.wrap (w64 (x3556 + x3558))).fdiv (2 ^ 1))) + x3557)) - out4292)))] w4315 (by kernel_rfl) ?_
            refine W_nil ?_
            refine N_then ?_
            refine G_seq ?_
            refine G_seq ?_
            obtain ⟨o4319, ho4320, hm4321⟩ := gx_bind hm
            refine G_meet (fun a w' => Mem (idsOf [sg3554]) w w' [sg3554] ∧ Sat Try.f97.ntmps [(0, .slice p3552 x3550.length c3553), (1, .int .i64 x3556), (2, .int .i64 x3557), (3, .int .i64 x3558), (4, .func (.func 90) #[] #[]), (18, .int .i64 (w64 ((IntKind.u64.wrap (w64 (x3556 + x3558))).fdiv (2 ^ 1)))), (20, .int .i64 out4292), (24, .int .i64 (w64 ((w64 ((w64 ((IntKind.u64.wrap (w64 (x3556 + x3558))).fdiv (2 ^ 1))) + x3557)) - out4292))), (185, .bool o4319)] a) ?_ ?_
            · have hm := ho4320
              refine G_region ?_
              refine W_run 4 [(0, .slice p3552 x3550.length c3553), (1, .int .i64 x3556), (2, .int .i64 x3557), (3, .int .i64 x3558), (4, .func (.func 90) #[] #[]), (18, .int .i64 (w64 ((IntKind.u64.wrap (w64 (x3556 + x3558))).fdiv (2 ^ 1)))), (20, .int .i64 out4292), (24, .int .i64 (w64 ((w64 ((w64 ((IntKind.u64.wrap (w64 (x3556 + x3558))).fdiv (2 ^ 1))) + x3557)) - out4292))), (181, .bool (decide (out4292 < x3557)))] w4315 (by kernel_rfl) ?_
              rcases gx_bif hm with ⟨hc4322, hm⟩ | ⟨hc4322, hm⟩
              · refine W_known 181 true (by kernel_rfl) hc4322 ?_
                refine W_run 4 [(0, .slice p3552 x3550.length c3553), (1, .int .i64 x3556), (2, .int .i64 x3557), (3, .int .i64 x3558), (4, .func (.func 90) #[] #[]), (18, .int .i64 (w64 ((IntKind.u64.wrap (w64 (x3556 + x3558))).fdiv (2 ^ 1)))), (20, .int .i64 out4292), (24, .int .i64 (w64 ((w64 ((w64 ((IntKind.u64.wrap (w64 (x3556 + x3558))).fdiv (2 ^ 1))) + x3557)) - out4292))), (185, .bool (decide (x3557 < (w64 ((w64 ((w64 ((IntKind.u64.wrap (w64 (x3556 + x3558))).fdiv (2 ^ 1))) + x3557)) - out4292)))))] w4315 (by kernel_rfl) ?_
                refine W_nil ?_
                obtain rfl := Option.some.inj hm
                exact N_meet fun a ha => ⟨M4316.pick [0] (by kernel_rfl), ha.sub (by kernel_rfl)⟩
              · refine W_known 181 false (by kernel_rfl) hc4322 ?_
                refine W_run 4 [(0, .slice p3552 x3550.length c3553), (1, .int .i64 x3556), (2, .int .i64 x3557), (3, .int .i64 x3558), (4, .func (.func 90) #[] #[]), (18, .int .i64 (w64 ((IntKind.u64.wrap (w64 (x3556 + x3558))).fdiv (2 ^ 1)))), (20, .int .i64 out4292), (24, .int .i64 (w64 ((w64 ((w64 ((IntKind.u64.wrap (w64 (x3556 + x3558))).fdiv (2 ^ 1))) + x3557)) - out4292))), (185, .bool false)] w4315 (by kernel_rfl) ?_
                refine W_nil ?_
                obtain rfl := Option.some.inj hm
                exact N_meet fun a ha => ⟨M4316.pick [0] (by kernel_rfl), ha.sub (by kernel_rfl)⟩
            · intro a4325 w4323 ⟨M4324, hS4326⟩
              refine N_use hS4326 ?_
              have hm := hm4321
              refine N_then ?_
              obtain ⟨o4876, ho4877, hm4878⟩ := gx_bind hm
              refine G_meet (fun a w' => ∃ (sg4879 : Seg), ownS encRegion o4876 p3552 c3553 sg4879 ∧ o4876.length = x3550.length ∧ Mem (idsOf [sg3554]) w w' [sg4879] ∧ Sat Try.f97.ntmps [(0, .slice p3552 o4876.length c3553), (1, .int .i64 x3556), (3, .int .i64 x3558), (4, .func (.func 90) #[] #[]), (18, .int .i64 (w64 ((IntKind.u64.wrap (w64 (x3556 + x3558))).fdiv (2 ^ 1)))), (20, .int .i64 out4292), (24, .int .i64 (w64 ((w64 ((w64 ((IntKind.u64.wrap (w64 (x3556 + x3558))).fdiv (2 ^ 1))) + x3557)) - out4292)))] a) ?_ ?_
              · have hm := ho4877
                rcases gx_bif hm with ⟨hc4882, hm⟩ | ⟨hc4882, hm⟩
                · refine G_cond_t (b := o4319) hc4882 (by kernel_rfl) ?_
                  refine G_region ?_
                  refine W_run 5 [(0, .slice p3552 x3550.length c3553), (1, .int .i64 x3556), (3, .int .i64 x3558), (4, .func (.func 90) #[] #[]), (18, .int .i64 (w64 ((IntKind.u64.wrap (w64 (x3556 + x3558))).fdiv (2 ^ 1)))), (20, .int .i64 out4292), (24, .int .i64 (w64 ((w64 ((w64 ((IntKind.u64.wrap (w64 (x3556 + x3558))).fdiv (2 ^ 1))) + x3557)) - out4292))), (186, .slice p3552 x3550.length c3553), (187, .int .i64 out4292), (188, .int .i64 x3557), (189, .int .i64 (w64 ((w64 ((w64 ((IntKind.u64.wrap (w64 (x3556 + x3558))).fdiv (2 ^ 1))) + x3557)) - out4292))), (190, .func (.func 90) #[] #[])] w4323 (by kernel_rfl) ?_
                  obtain ⟨r4883, hr4883, hm⟩ := gx_bind hm
                  refine W_call 98 #[.slice p3552 x3550.length c3553, .int .i64 out4292, .int .i64 x3557, .int .i64 (w64 ((w64 ((w64 ((IntKind.u64.wrap (w64 (x3556 + x3558))).fdiv (2 ^ 1))) + x3557)) - out4292)), .func (.func 90) #[] #[]] (by kernel_rfl) (by kernel_rfl) ?_
                  refine (c_slices_rotateCmpFunc_98__i_asMap_1 w4323 x3550 p3552 c3553 sg3554 ho3555 out4292 x3557 (w64 ((w64 ((w64 ((IntKind.u64.wrap (w64 (x3556 + x3558))).fdiv (2 ^ 1))) + x3557)) - out4292)) (M4324.hasPick [0]) (M4324.nodupPick [0] (by kernel_rfl)) hr4883).mono ?_
                  rintro e_ w4887 ⟨sg4884, rfl, ho4885, hl4886, K4888⟩
                  have M4889 := M4324.callF' [0] [] (by kernel_rfl) K4888
                  refine ⟨_, rfl, ?_⟩
                  refine W_conv 0 (.slice p3552 x3550.length c3553) (.slice p3552 r4883.length c3553) (by kernel_rfl) (by first | rw [hl4886] | rw [hl4886]) ?_
                  refine W_conv 186 (.slice p3552 x3550.length c3553) (.slice p3552 r4883.length c3553) (by kernel_rfl) (by first | rw [hl4886] | rw [hl4886]) ?_
                  refine W_nil ?_
                  obtain rfl := Option.some.inj hm
                  exact N_meet fun a ha => ⟨sg4884, ho4885, (hl4886.trans rfl), M4889.pick [0] (by kernel_rfl), ha.sub (by kernel_rfl)⟩
                · refine G_cond_f (b := o4319) hc4882 (by kernel_rfl) ?_
                  refine G_skip ?_
                  obtain rfl := Option.some.inj hm
                  exact N_meet fun a ha => ⟨sg3554, ho3555, rfl, M4324.pick [0] (by kernel_rfl), ha.sub (by kernel_rfl)⟩
              · intro a4892 w4890 ⟨sg4879, ho4880, hl4881, M4891, hS4893⟩
                refine N_use hS4893 ?_
                have hm := hm4878
                refine N_then ?_
                refine G_seq ?_
                refine G_seq ?_
                obtain ⟨o4895, ho4896, hm4897⟩ := gx_bind hm
                refine G_meet (fun a w' => Mem (idsOf [sg3554]) w w' [sg4879] ∧ Sat Try.f97.ntmps [(0, .slice p3552 o4876.length c3553), (1, .int .i64 x3556), (3, .int .i64 x3558), (4, .func (.func 90) #[] #[]), (18, .int .i64 (w64 ((IntKind.u64.wrap (w64 (x3556 + x3558))).fdiv (2 ^ 1)))), (20, .int .i64 out4292), (24, .int .i64 (w64 ((w64 ((w64 ((IntKind.u64.wrap (w64 (x3556 + x3558))).fdiv (2 ^ 1))) + x3557)) - out4292))), (199, .bool o4895)] a) ?_ ?_
                · have hm := ho4896
                  refine G_region ?_
                  refine W_run 4 [(0, .slice p3552 o4876.length c3553), (1, .int .i64 x3556), (3, .int .i64 x3558), (4, .func (.func 90) #[] #[]), (18, .int .i64 (w64 ((IntKind.u64.wrap (w64 (x3556 + x3558))).fdiv (2 ^ 1)))), (20, .int .i64 out4292), (24, .int .i64 (w64 ((w64 ((w64 ((IntKind.u64.wrap (w64 (x3556 + x3558))).fdiv (2 ^ 1))) + x3557)) - out4292))), (195, .bool (decide (x3556 < out4292)))] w4890 (by kernel_rfl) ?_
                  rcases gx_bif hm with ⟨hc4898, hm⟩ | ⟨hc4898, hm⟩
                  · refine W_known 195 true (by kernel_rfl) hc4898 ?_
                    refine W_run 4 [(0, .slice p3552 o4876.length c3553), (1, .int .i64 x3556), (3, .int .i64 x3558), (4, .func (.func 90) #[] #[]), (18, .int .i64 (w64 ((IntKind.u64.wrap (w64 (x3556 + x3558))).fdiv (2 ^ 1)))), (20, .int .i64 out4292), (24, .int .i64 (w64 ((w64 ((w64 ((IntKind.u64.wrap (w64 (x3556 + x3558))).fdiv (2 ^ 1))) + x3557)) - out4292))), (199, .bool (decide (out4292 < (w64 ((IntKind.u64.wrap (w64 (x3556 + x3558))).fdiv (2 ^ 1))))))] w4890 (by kernel_rfl) ?_
                    refine W_nil ?_
                    obtain rfl := Option.some.inj hm
                    exact N_meet fun a ha => ⟨M4891.pick [0] (by kernel_rfl), ha.sub (by kernel_rfl)⟩
                  · refine W_known 195 false (by kernel_rfl) hc4898 ?_
                    refine W_run 4 [(0, .slice p3552 o4876.length c3553), (1, .int .i64 x3556), (3, .int .i64 x3558), (4, .func (.func 90) #[] #[]), (18, .int .i64 (w64 ((IntKind.u64.wrap (w64 (x3556 + x3558))).fdiv (2 ^ 1)))), (20, .int .i64 out4292), (24, .int .i64 (w64 ((w64 ((w64 ((IntKind.u64.wrap (w64 (x3556 + x3558))).fdiv (2 ^ 1))) + x3557)) - out4292))), (199, .bool false)] w4890 (by kernel_rfl) ?_
                    refine W_nil ?_
                    obtain rfl := Option.some.inj hm
                    exact N_meet fun a ha => ⟨M4891.pick [0] (by kernel_rfl), ha.sub (by kernel_rfl)⟩
                · intro a4901 w4899 ⟨M4900, hS4902⟩
                  refine N_use hS4902 ?_
                  have hm := hm4897
                  refine N_then ?_
                  obtain ⟨o4911, ho4912, hm4913⟩ := gx_bind hm
                  refine G_meet (fun a w' => ∃ (sg4914 : Seg), ownS encRegion o4911 p3552 c3553 sg4914 ∧ o4911.length = x3550.length ∧ Mem (idsOf [sg3554]) w w' [sg4914] ∧ Sat Try.f97.ntmps [(0, .slice p3552 o4911.length c3553), (3, .int .i64 x3558), (4, .func (.func 90) #[] #[]), (18, .int .i64 (w64 ((IntKind.u64.wrap (w64 (x3556 + x3558))).fdiv (2 ^ 1)))), (24, .int .i64 (w64 ((w64 ((w64 ((IntKind.u64.wrap (w64 (x3556 + x3558))).fdiv (2 ^ 1))) + x3557)) - out4292)))] a) ?_ ?_
                  · have hm := ho4912
                    rcases gx_bif hm with ⟨hc4917, hm⟩ | ⟨hc4917, hm⟩
                    · refine G_cond_t (b := o4895) hc4917 (by kernel_rfl) ?_
                      refine G_region ?_
                      refine W_run 5 [(0, .slice p3552 o4876.length c3553), (3, .int .i64 x3558), (4, .func (.func 90) #[] #[]), (18, .int .i64 (w64 ((IntKind.u64.wrap (w64 (x3556 + x3558))).fdiv (2 ^ 1)))), (24, .int .i64 (w64 ((w64 ((w64 ((IntKind.u64.wrap (w64 (x3556 + x3558))).fdiv (2 ^ 1))) + x3557)) - out4292))), (200, .slice p3552 o4876.length c3553), (201, .int .i64 x3556), (202, .int .i64 out4292), (203, .int .i64 (w64 ((IntKind.u64.wrap (w64 (x3556 + x3558))).fdiv (2 ^ 1)))), (204, .func (.func 90) #[] #[])] w4899 (by kernel_rfl) ?_
                      obtain ⟨r4918, hr4918, hm⟩ := gx_bind hm
                      refine W_call 97 #[.slice p3552 o4876.length c3553, .int .i64 x3556, .int .i64 out4292, .int .i64 (w64 ((IntKind.u64.wrap (w64 (x3556 + x3558))).fdiv (2 ^ 1))), .func (.func 90) #[] #[]] (by kernel_rfl) (by kernel_rfl) ?_
                      refine (ih_ w4899 o4876 p3552 c3553 sg4879 ho4880 x3556 out4292 (w64 ((IntKind.u64.wrap (w64 (x3556 + x3558))).fdiv (2 ^ 1))) (M4900.hasPick [0]) (M4900.nodupPick [0] (by kernel_rfl)) hr4918).mono ?_
                      rintro e_ w4922 ⟨sg4919, rfl, ho4920, hl4921, K4923⟩
                      have M4924 := M4900.callF' [0] [] (by kernel_rfl) K4923
                      refine ⟨_, rfl, ?_⟩
                      refine W_conv 0 (.slice p3552 o4876.length c3553) (.slice p3552 r4918.length c3553) (by kernel_rfl) (by first | rw [hl4921] | rw [hl4921]) ?_
                      refine W_conv 200 (.slice p3552 o4876.length c3553) (.slice p3552 r4918.length c3553) (by kernel_rfl) (by first | rw [hl4921] | rw [hl4921]) ?_
                      refine W_nil ?_
                      obtain rfl := Option.some.inj hm
                      exact N_meet fun a ha => ⟨sg4919, ho4920, (hl4921.trans hl4881), M4924.pick [0] (by kernel_rfl), ha.sub (by kernel_rfl)⟩
                    · refine G_cond_f (b := o4895) hc4917 (by kernel_rfl) ?_
                      refine G_skip ?_
                      obtain rfl := Option.some.inj hm
                      exact N_meet fun a ha => ⟨sg4879, ho4880, hl4881, M4900.pick [0] (by kernel_rfl), ha.sub (by kernel_rfl)⟩
                  · intro a4927 w4925 ⟨sg4914, ho4915, hl4916, M4926, hS4928⟩
                    refine N_use hS4928 ?_
                    have hm := hm4913
                    refine N_then ?_
                    refine G_seq ?_
                    obtain ⟨o4930, ho4931, hm4932⟩ := gx_bind hm
                    refine G_meet (fun a w' => Mem (idsOf [sg3554]) w w' [sg4914] ∧ Sat Try.f97.ntmps [(0, .slice p3552 o4911.length c3553), (3, .int .i64 x3558), (4, .func (.func 90) #[] #[]), (18, .int .i64 (w64 ((IntKind.u64.wrap (w64 (x3556 + x3558))).fdiv (2 ^ 1)))), (24, .int .i64 (w64 ((w64 ((w64 ((IntKind.u64.wrap (w64 (x3556 + x3558))).fdiv (2 ^ 1))) + x3557)) - out4292))), (213, .bool o4930)] a) ?_ ?_
                    · have hm := ho4931
                      refine G_region ?_
                      refine W_run 4 [(0, .slice p3552 o4911.length c3553), (3, .int .i64 x3558), (4, .func (.func 90) #[] #[]), (18, .int .i64 (w64 ((IntKind.u64.wrap (w64 (x3556 + x3558))).fdiv (2 ^ 1)))), (24, .int .i64 (w64 ((w64 ((w64 ((IntKind.u64.wrap (w64 (x3556 + x3558))).fdiv (2 ^ 1))) + x3557)) - out4292))), (209, .bool (decide ((w64 ((IntKind.u64.wrap (w64 (x3556 + x3558))).fdiv (2 ^ 1))) < (w64 ((w64 ((w64 ((IntKind.u64.wrap (w64 (x3556 + x3558))).fdiv (2 ^ 1))) + x3557)) - out4292)))))] w4925 (by kernel_rfl) ?_
                      rcases gx_bif hm with ⟨hc4933, hm⟩ | ⟨hc4933, hm⟩
                      · refine W_known 209 true (by kernel_rfl) hc4933 ?_
                        refine W_run 4 [(0, .slice p3552 o4911.length c3553), (3, .int .i64 x3558), (4, .func (.func 90) #[] #[]), (18, .int .i64 (w64 ((IntKind.u64.wrap (w64 (x3556 + x3558))).fdiv (2 ^ 1)))), (24, .int .i64 (w64 ((w64 ((w64 ((IntKind.u64.wrap (w64 (x3556 + x3558))).fdiv (2 ^ 1))) + x3557)) - out4292))), (213, .bool (decide ((w64 ((w64 ((w64 ((IntKind.u64.wrap (w64 (x3556 + x3558))).fdiv (2 ^ 1))) + x3557)) - out4292)) < x3558)))] w4925 (by kernel_rfl) ?_
                        refine W_nil ?_
                        obtain rfl := Option.some.inj hm
                        exact N_meet fun a ha => ⟨M4926.pick [0] (by kernel_rfl), ha.sub (by kernel_rfl)⟩
                      · refine W_known 209 false (by kernel_rfl) hc4933 ?_
                        refine W_run 4 [(0, .slice p3552 o4911.length c3553), (3, .int .i64 x3558), (4, .func (.func 90) #[] #[]), (18, .int .i64 (w64 ((IntKind.u64.wrap (w64 (x3556 + x3558))).fdiv (2 ^ 1)))), (24, .int .i64 (w64 ((w64 ((w64 ((IntKind.u64.wrap (w64 (x3556 + x3558))).fdiv (2 ^ 1))) + x3557)) - out4292))), (213, .bool false)] w4925 (by kernel_rfl) ?_
                        refine W_nil ?_
                        obtain rfl := Option.some.inj hm
                        exact N_meet fun a ha => ⟨M4926.pick [0] (by kernel_rfl), ha.sub (by kernel_rfl)⟩
                    · intro a4936 w4934 ⟨M4935, hS4937⟩
                      refine N_use hS4937 ?_
                      have hm := hm4932
                      refine N_then ?_
                      obtain ⟨o4946, ho4947, hm4948⟩ := gx_bind hm
                      refine G_meet (fun a w' => ∃ (sg4949 : Seg), ownS encRegion o4946 p3552 c3553 sg4949 ∧ o4946.length = x3550.length ∧ Mem (idsOf [sg3554]) w w' [sg4949] ∧ Sat Try.f97.ntmps [] a) ?_ ?_
                      · have hm := ho4947
                        rcases gx_bif hm with ⟨hc4952, hm⟩ | ⟨hc4952, hm⟩
                        · refine G_cond_t (b := o4930) hc4952 (by kernel_rfl) ?_
                          refine G_region ?_
                          refine W_run 5 [(214, .slice p3552 o4911.length c3553), (215, .int .i64 (w64 ((IntKind.u64.wrap (w64 (x3556 + x3558))).fdiv (2 ^ 1)))), (216, .int .i64 (w64 ((w64 ((w64 ((IntKind.u64.wrap (w64 (x3556 + x3558))).fdiv (2 ^ 1))) + x3557)) - out4292))), (217, .int .i64 x3558), (218, .func (.func 90) #[] #[])] w4934 (by kernel_rfl) ?_
                          obtain ⟨r4953, hr4953, hm⟩ := gx_bind hm
                          refine W_call 97 #[.slice p3552 o4911.length c3553, .int .i64 (w64 ((IntKind.u64.wrap (w64 (x3556 + x3558))).fdiv (2 ^ 1))), .int .i64 (w64 ((w64 ((w64 ((IntKind.u64.wrap (w64 (x3556 + x3558))).fdiv (2 ^ 1))) + x3557)) - out4292)), .int .i64 x3558, .func (.func 90) #[] #[]] (by kernel_rfl) (by kernel_rfl) ?_
                          refine (ih_ w4934 o4911 p3552 c3553 sg4914 ho4915 (w64 ((IntKind.u64.wrap (w64 (x3556 + x3558))).fdiv (2 ^ 1))) (w64 ((w64 ((w64 ((IntKind.u64.wrap (w64 (x3556 + x3558))).fdiv (2 ^ 1))) + x3557)) - out4292)) x3558 (M4935.hasPick [0]) (M4935.nodupPick [0] (by kernel_rfl)) hr4953).mono ?_
                          rintro e_ w4957 ⟨sg4954, rfl, ho4955, hl4956, K4958⟩
                          have M4959 := M4935.callF' [0] [] (by kernel_rfl) K4958
                          refine ⟨_, rfl, ?_⟩
                          refine W_conv 214 (.slice p3552 o4911.length c3553) (.slice p3552 r4953.length c3553) (by kernel_rfl) (by first | rw [hl4956] | rw [hl4956]) ?_
                          refine W_nil ?_
                          obtain rfl := Option.some.inj hm
                          exact N_meet fun a ha => ⟨sg4954, ho4955, (hl4956.trans hl4916), M4959.pick [0] (by kernel_rfl), ha.sub (by kernel_rfl)⟩
                        · refine G_cond_f (b := o4930) hc4952 (by kernel_rfl) ?_
                          refine G_skip ?_
                          obtain rfl := Option.some.inj hm
                          exact N_meet fun a ha => ⟨sg4914, ho4915, hl4916, M4935.pick [0] (by kernel_rfl), ha.sub (by kernel_rfl)⟩
                      · intro a4962 w4960 ⟨sg4949, ho4950, hl4951, M4961, hS4963⟩
                        refine N_use hS4963 ?_
                        have hm := hm4948
                        obtain rfl := Option.some.inj hm
                        refine N_end [] (RVs_nil) ?_
                        exact ⟨sg4949, rfl, ho4950, hl4951, M4961.pick [0] (by kernel_rfl)⟩
theorem c_slices_stableCmpFunc_94__i_asMap_1 (w : World) (x3401 : List Region) (p3403 : Option Addr) (c3404 : Nat) (sg3405 : Seg) (ho3406 : ownS encRegion x3401 p3403 c3404 sg3405) (x3407 : Int) (hA : ∀ q ∈ List.flatten [sg3405], w.heap[q.1]? = some q.2) (hN : (idsOf [sg3405]).Nodup) {r : (List Region)} (hm : M.slices_stableCmpFunc_94__i_asMap_1 x3401 x3407 = some r) :
    Calls Try.prog 94 #[.slice p3403 x3401.length c3404, .int .i64 x3407, .func (.func 90) #[] #[]] w fun e w' => ∃ (sg3408 : Seg), e = .returned (.tuple #[]) ∧ ownS encRegion r p3403 c3404 sg3408 ∧ r.length = x3401.length ∧ Mem (idsOf [sg3405]) w w' [sg3408] := by
  unfold M.slices_stableCmpFunc_94__i_asMap_1 at hm
  refine C_enter Try.func94 rfl (by kernel_rfl) ?_
  have M0 := Mem.start' w [sg3405] hA hN
  refine G_seq ?_
  refine G_region ?_
  refine W_run 1 [(0, .slice p3403 x3401.length c3404), (1, .int .i64 x3407), (2, .func (.func 90) #[] #[]), (6, .int .i64 20)] w (by kernel_rfl) ?_
  refine W_nil ?_
  refine N_then ?_
  refine G_seq ?_
  refine G_region ?_
  refine W_run 3 [(0, .slice p3403 x3401.length c3404), (1, .int .i64 x3407), (2, .func (.func 90) #[] #[]), (6, .int .i64 20), (7, .int .i64 0), (8, .int .i64 20)] w (by kernel_rfl) ?_
  refine W_nil ?_
  refine N_then ?_
  refine G_seq ?_
  obtain ⟨out3435, hw3436, hmo3437⟩ := gx_bind hm
  refine G_meet (fun a w' => ∃ (sg3442 : Seg), ownS encRegion out3435.2 p3403 c3404 sg3442 ∧ out3435.2.length = x3401.length ∧ Mem (idsOf [sg3405]) w w' [sg3442] ∧ Sat Try.f94.ntmps [(0, .slice p3403 out3435.2.length c3404), (1, .int .i64 x3407), (2, .func (.func 90) #[] #[]), (6, .int .i64 20), (7, .int .i64 out3435.1)] a) ?_ ?_
  · refine G_block ?_
    refine G_while (σ := Int × Int × List Region) (ρ := Int × List Region) (fun s3428 a w' => ∃ (sg3438 : Seg), ownS encRegion s3428.2.2 p3403 c3404 sg3438 ∧ s3428.2.2.length = x3401.length ∧ Mem (idsOf [sg3405]) w w' [sg3438] ∧ Sat Try.f94.ntmps [(0, .slice p3403 s3428.2.2.length c3404), (1, .int .i64 x3407), (2, .func (.func 90) #[] #[]), (6, .int .i64 20), (7, .int .i64 s3428.1), (8, .int .i64 s3428.2.1)] a) hw3436 (fun a ha => ⟨sg3405, ho3406, rfl, M0.pick [0] (by kernel_rfl), ha.sub (by kernel_rfl)⟩) ?_
    clear hm
    intro s3428 x3429 hm hout3430 a3431 w3432 ⟨sg3438, ho3439, hl3440, M3433, hS3434⟩
    refine G_use hS3434 ?_
    refine G_seq ?_
    refine G_seq ?_
    refine G_region ?_
    refine W_run 3 [(0, .slice p3403 s3428.2.2.length c3404), (1, .int .i64 x3407), (2, .func (.func 90) #[] #[]), (6, .int .i64 20), (7, .int .i64 s3428.1), (8, .int .i64 s3428.2.1), (13, .bool (decide (s3428.2.1 ≤ x3407)))] w3432 (by kernel_rfl) ?_
    refine W_nil ?_
    refine N_then ?_
    rcases gx_bif hm with ⟨hc3445, hm⟩ | ⟨hc3445, hm⟩
    · refine G_cond_t (b := (decide (s3428.2.1 ≤ x3407))) hc3445 (by kernel_rfl) ?_
      refine G_skip ?_
      refine N_then ?_
      refine G_block ?_
      refine G_seq ?_
      refine G_region ?_
      refine W_run 4 [(0, .slice p3403 s3428.2.2.length c3404), (1, .int .i64 x3407), (2, .func (.func 90) #[] #[]), (6, .int .i64 20), (8, .int .i64 s3428.2.1), (14, .slice p3403 s3428.2.2.length c3404), (15, .int .i64 s3428.1), (16, .int .i64 s3428.2.1), (17, .func (.func 90) #[] #[])] w3432 (by kernel_rfl) ?_
      obtain ⟨r3446, hr3446, hm⟩ := gx_bind hm
      refine W_call 96 #[.slice p3403 s3428.2.2.length c3404, .int .i64 s3428.1, .int .i64 s3428.2.1, .func (.func 90) #[] #[]] (by kernel_rfl) (by kernel_rfl) ?_
      refine (c_slices_insertionSortCmpFunc_96__i_asMap_1 w3432 s3428.2.2 p3403 c3404 sg3438 ho3439 s3428.1 s3428.2.1 (M3433.hasPick [0]) (M3433.nodupPick [0] (by kernel_rfl)) hr3446).mono ?_
      rintro e_ w3450 ⟨sg3447, rfl, ho3448, hl3449, K3451⟩
      have M3452 := M3433.callF' [0] [] (by kernel_rfl) K3451
      refine ⟨_, rfl, ?_⟩
      refine W_conv 0 (.slice p3403 s3428.2.2.length c3404) (.slice p3403 r3446.length c3404) (by kernel_rfl) (by first | rw [hl3449] | rw [hl3449]) ?_
      refine W_conv 14 (.slice p3403 s3428.2.2.length c3404) (.slice p3403 r3446.length c3404) (by kernel_rfl) (by first | rw [hl3449] | rw [hl3449]) ?_
      refine W_nil ?_
      refine N_then ?_
      refine G_seq ?_
      refine G_region ?_
      refine W_run 2 [(0, .slice p3403 r3446.length c3404), (1, .int .i64 x3407), (2, .func (.func 90) #[] #[]), (6, .int .i64 20), (7, .int .i64 s3428.2.1), (8, .int .i64 s3428.2.1)] w3450 (by kernel_rfl) ?_
      refine W_nil ?_
      refine N_then ?_
      refine G_region ?_
      refine W_run 4 [(0, .slice p3403 r3446.length c3404), (1, .int .i64 x3407), (2, .func (.func 90) #[] #[]), (6, .int .i64 20), (7, .int .i64 s3428.2.1), (8, .int .i64 (w64 (s3428.2.1 + 20)))] w3450 (by kernel_rfl) ?_
      refine W_nil ?_
      refine N_block ?_
      obtain rfl := Option.some.inj hm
      exact N_loop fun a ha => ⟨_, rfl, sg3447, ho3448, (hl3449.trans hl3440), M3452.pick [0] (by kernel_rfl), ha.sub (by kernel_rfl)⟩
    · refine G_cond_f (b := (decide (s3428.2.1 ≤ x3407))) hc3445 (by kernel_rfl) ?_
      refine G_exit ?_
      refine N_then_exit ?_
      refine N_then_exit ?_
      refine N_block_eq ?_
      obtain rfl := Option.some.inj hm
      obtain rfl := hout3430 _ rfl
      exact N_meet fun a ha => ⟨sg3438, ho3439, hl3440, M3433.pick [0] (by kernel_rfl), ha.sub (by kernel_rfl)⟩
  · intro a3453 w3454 ⟨sg3442, ho3443, hl3444, M3455, hS3456⟩
    refine N_use hS3456 ?_
    have hm := hmo3437
    refine N_then ?_
    refine G_seq ?_
    refine G_region ?_
    refine W_run 4 [(0, .slice p3403 out3435.2.length c3404), (1, .int .i64 x3407), (2, .func (.func 90) #[] #[]), (6, .int .i64 20), (23, .slice p3403 out3435.2.length c3404), (24, .int .i64 out3435.1), (25, .int .i64 x3407), (26, .func (.func 90) #[] #[])] w3454 (by kernel_rfl) ?_
    obtain ⟨r3457, hr3457, hm⟩ := gx_bind hm
    refine W_call 96 #[.slice p3403 out3435.2.length c3404, .int .i64 out3435.1, .int .i64 x3407, .func (.func 90) #[] #[]] (by kernel_rfl) (by kernel_rfl) ?_
    refine (c_slices_insertionSortCmpFunc_96__i_asMap_1 w3454 out3435.2 p3403 c3404 sg3442 ho3443 out3435.1 x3407 (M3455.hasPick [0]) (M3455.nodupPick [0] (by kernel_rfl)) hr3457).mono ?_
    rintro e_ w3461 ⟨sg3458, rfl, ho3459, hl3460, K3462⟩
    have M3463 := M3455.callF' [0] [] (by kernel_rfl) K3462
    refine ⟨_, rfl, ?_⟩
    refine W_conv 0 (.slice p3403 out3435.2.length c3404) (.slice p3403 r3457.length c3404) (by kernel_rfl) (by first | rw [hl3460] | rw [hl3460]) ?_
    refine W_conv 23 (.slice p3403 out3435.2.length c3404) (.slice p3403 r3457.length c3404) (by kernel_rfl) (by first | rw [hl3460] | rw [hl3460]) ?_
    refine W_nil ?_
    refine N_then ?_
    obtain ⟨out5122, hw5123, hmo5124⟩ := gx_bind hm
    refine G_meet (fun a w' => ∃ (sg5129 : Seg), ownS encRegion out5122 p3403 c3404 sg5129 ∧ out5122.length = x3401.length ∧ Mem (idsOf [sg3405]) w w' [sg5129] ∧ Sat Try.f94.ntmps [] a) ?_ ?_
    · refine G_block ?_
      refine G_while (σ := Int × List Region) (ρ := List Region) (fun s5115 a w' => ∃ (sg5125 : Seg), ownS encRegion s5115.2 p3403 c3404 sg5125 ∧ s5115.2.length = x3401.length ∧ Mem (idsOf [sg3405]) w w' [sg5125] ∧ Sat Try.f94.ntmps [(0, .slice p3403 s5115.2.length c3404), (1, .int .i64 x3407), (2, .func (.func 90) #[] #[]), (6, .int .i64 s5115.1)] a) hw5123 (fun a ha => ⟨sg3458, ho3459, (hl3460.trans hl3444), M3463.pick [0] (by kernel_rfl), ha.sub (by kernel_rfl)⟩) ?_
      clear hm
      intro s5115 x5116 hm hout5117 a5118 w5119 ⟨sg5125, ho5126, hl5127, M5120, hS5121⟩
      refine G_use hS5121 ?_
      refine G_seq ?_
      refine G_seq ?_
      refine G_region ?_
      refine W_run 3 [(0, .slice p3403 s5115.2.length c3404), (1, .int .i64 x3407), (2, .func (.func 90) #[] #[]), (6, .int .i64 s5115.1), (30, .bool (decide (s5115.1 < x3407)))] w5119 (by kernel_rfl) ?_
      refine W_nil ?_
      refine N_then ?_
      rcases gx_bif hm with ⟨hc5132, hm⟩ | ⟨hc5132, hm⟩
      · refine G_cond_t (b := (decide (s5115.1 < x3407))) hc5132 (by kernel_rfl) ?_
        refine G_skip ?_
        refine N_then ?_
        refine G_block ?_
        refine G_seq ?_
        refine G_region ?_
        refine W_run 4 [(0, .slice p3403 s5115.2.length c3404), (1, .int .i64 x3407), (2, .func (.func 90) #[] #[]), (6, .int .i64 s5115.1), (7, .int .i64 0), (8, .int .i64 (w64 (2 * s5115.1)))] w5119 (by kernel_rfl) ?_
        refine W_nil ?_
        refine N_then ?_
        refine G_seq ?_
        obtain ⟨out5159, hw5160, hmo5161⟩ := gx_bind hm
        refine G_meet (fun a w' => ∃ (sg5166 : Seg), ownS encRegion out5159.2 p3403 c3404 sg5166 ∧ out5159.2.length = x3401.length ∧ Mem (idsOf [sg3405]) w w' [sg5166] ∧ Sat Try.f94.ntmps [(0, .slice p3403 out5159.2.length c3404), (1, .int .i64 x3407), (2, .func (.func 90) #[] #[]), (6, .int .i64 s5115.1), (7, .int .i64 out5159.1)] a) ?_ ?_
        · refine G_block ?_
          refine G_while (σ := Int × Int × List Region) (ρ := Int × List Region) (fun s5152 a w' => ∃ (sg5162 : Seg), ownS encRegion s5152.2.2 p3403 c3404 sg5162 ∧ s5152.2.2.length = x3401.length ∧ Mem (idsOf [sg3405]) w w' [sg5162] ∧ Sat Try.f94.ntmps [(0, .slice p3403 s5152.2.2.length c3404), (1, .int .i64 x3407), (2, .func (.func 90) #[] #[]), (6, .int .i64 s5115.1), (7, .int .i64 s5152.1), (8, .int .i64 s5152.2.1)] a) hw5160 (fun a ha => ⟨sg5125, ho5126, hl5127, M5120.pick [0] (by kernel_rfl), ha.sub (by kernel_rfl)⟩) ?_
          clear hm
          intro s5152 x5153 hm hout5154 a5155 w5156 ⟨sg5162, ho5163, hl5164, M5157, hS5158⟩
          refine G_use hS5158 ?_
          refine G_seq ?_
          refine G_seq ?_
          refine G_region ?_
          refine W_run 3 [(0, .slice p3403 s5152.2.2.length c3404), (1, .int .i64 x3407), (2, .func (.func 90) #[] #[]), (6, .int .i64 s5115.1), (7, .int .i64 s5152.1), (8, .int .i64 s5152.2.1), (35, .bool (decide (s5152.2.1 ≤ x3407)))] w5156 (by kernel_rfl) ?_
          refine W_nil ?_
          refine N_then ?_
          rcases gx_bif hm with ⟨hc5169, hm⟩ | ⟨hc5169, hm⟩
          · refine G_cond_t (b := (decide (s5152.2.1 ≤ x3407))) hc5169 (by kernel_rfl) ?_
            refine G_skip ?_
            refine N_then ?_
            refine G_block ?_
            refine G_seq ?_
            refine G_region ?_
            refine W_run 7 [(0, .slice p3403 s5152.2.2.length c3404), (1, .int .i64 x3407), (2, .func (.func 90) #[] #[]), (6, .int .i64 s5115.1), (8, .int .i64 s5152.2.1), (36, .slice p3403 s5152.2.2.length c3404), (37, .int .i64 s5152.1), (40, .int .i64 (w64 (s5152.1 + s5115.1))), (41, .int .i64 s5152.2.1), (42, .func (.func 90) #[] #[])] w5156 (by kernel_rfl) ?_
            obtain ⟨r5170, hr5170, hm⟩ := gx_bind hm
            refine W_call 97 #[.slice p3403 s5152.2.2.length c3404, .int .i64 s5152.1, .int .i64 (w64 (s5152.1 + s5115.1)), .int .i64 s5152.2.1, .func (.func 90) #[] #[]] (by kernel_rfl) (by kernel_rfl) ?_
            refine (c_slices_symMergeCmpFunc_97__i_asMap_1 gxFuel w5156 s5152.2.2 p3403 c3404 sg5162 ho5163 s5152.1 (w64 (s5152.1 + s5115.1)) s5152.2.1 (M5157.hasPick [0]) (M5157.nodupPick [0] (by kernel_rfl)) hr5170).mono ?_
            rintro e_ w5174 ⟨sg5171, rfl, ho5172, hl5173, K5175⟩
            have M5176 := M5157.callF' [0] [] (by kernel_rfl) K5175
            refine ⟨_, rfl, ?_⟩
            refine W_conv 0 (.slice p3403 s5152.2.2.length c3404) (.slice p3403 r5170.length c3404) (by kernel_rfl) (by first | rw [hl5173] | rw [hl5173]) ?_
            refine W_conv 36 (.slice p3403 s5152.2.2.length c3404) (.slice p3403 r5170.length c3404) (by kernel_rfl) (by first | rw [hl5173] | rw [hl5173]) ?_
            refine W_nil ?_
            refine N_then ?_
            refine G_seq ?_
            refine G_region ?_
            refine W_run 2 [(0, .slice p3403 r5170.length c3404), (1, .int .i64 x3407), (2, .func (.func 90) #[] #[]), (6, .int .i64 s5115.1), (7, .int .i64 s5152.2.1), (8, .int .i64 s5152.2.1)] w5174 (by kernel_rfl) ?_
            refine W_nil ?_
            refine N_then ?_
            refine G_region ?_
            refine W_run 5 [(0, .slice p3403 r5170.length c3404), (1, .int .i64 x3407), (2, .func (.func 90) #[] #[]), (6, .int .i64 s5115.1), (7, .int .i64 s5152.2.1), (8, .int .i64 (w64 (s5152.2.1 + (w64 (2 * s5115.1)))))] w5174 (by kernel_rfl) ?_
            refine W_nil ?_
            refine N_block ?_
            obtain rfl := Option.some.inj hm
            exact N_loop fun a ha => ⟨_, rfl, sg5171, ho5172, (hl5173.trans hl5164), M5176.pick [0] (by kernel_rfl), ha.sub (by kernel_rfl)⟩
          · refine G_cond_f (b := (decide (s5152.2.1 ≤ x3407))) hc5169 (by kernel_rfl) ?_
            refine G_exit ?_
            refine N_then_exit ?_
            refine N_then_exit ?_
            refine N_block_eq ?_
            obtain rfl := Option.some.inj hm
            obtain rfl := hout5154 _ rfl
            exact N_meet fun a ha => ⟨sg5162, ho5163, hl5164, M5157.pick [0] (by kernel_rfl), ha.sub (by kernel_rfl)⟩
        · intro a5177 w5178 ⟨sg5166, ho5167, hl5168, M5179, hS5180⟩
          refine N_use hS5180 ?_
          have hm := hmo5161
          refine N_then ?_
          refine G_seq ?_
          refine G_seq ?_
          refine G_region ?_
          refine W_run 4 [(0, .slice p3403 out5159.2.length c3404), (1, .int .i64 x3407), (2, .func (.func 90) #[] #[]), (6, .int .i64 s5115.1), (7, .int .i64 out5159.1), (9, .int .i64 (w64 (out5159.1 + s5115.1)))] w5178 (by kernel_rfl) ?_
          refine W_nil ?_
          refine N_then ?_
          refine G_seq ?_
          refine G_region ?_
          refine W_run 3 [(0, .slice p3403 out5159.2.length c3404), (1, .int .i64 x3407), (2, .func (.func 90) #[] #[]), (6, .int .i64 s5115.1), (7, .int .i64 out5159.1), (9, .int .i64 (w64 (out5159.1 + s5115.1))), (54, .bool (decide ((w64 (out5159.1 + s5115.1)) < x3407)))] w5178 (by kernel_rfl) ?_
          refine W_nil ?_
          refine N_then ?_
          obtain ⟨o5189, ho5190, hm5191⟩ := gx_bind hm
          refine G_meet (fun a w' => ∃ (sg5192 : Seg), ownS encRegion o5189 p3403 c3404 sg5192 ∧ o5189.length = x3401.length ∧ Mem (idsOf [sg3405]) w w' [sg5192] ∧ Sat Try.f94.ntmps [(0, .slice p3403 o5189.length c3404), (1, .int .i64 x3407), (2, .func (.func 90) #[] #[]), (6, .int .i64 s5115.1)] a) ?_ ?_
          · have hm := ho5190
            rcases gx_bif hm with ⟨hc5195, hm⟩ | ⟨hc5195, hm⟩
            · refine G_cond_t (b := (decide ((w64 (out5159.1 + s5115.1)) < x3407))) hc5195 (by kernel_rfl) ?_
              refine G_region ?_
              refine W_run 5 [(0, .slice p3403 out5159.2.length c3404), (1, .int .i64 x3407), (2, .func (.func 90) #[] #[]), (6, .int .i64 s5115.1), (55, .slice p3403 out5159.2.length c3404), (56, .int .i64 out5159.1), (57, .int .i64 (w64 (out5159.1 + s5115.1))), (58, .int .i64 x3407), (59, .func (.func 90) #[] #[])] w5178 (by kernel_rfl) ?_
              obtain ⟨r5196, hr5196, hm⟩ := gx_bind hm
              refine W_call 97 #[.slice p3403 out5159.2.length c3404, .int .i64 out5159.1, .int .i64 (w64 (out5159.1 + s5115.1)), .int .i64 x3407, .func (.func 90) #[] #[]] (by kernel_rfl) (by kernel_rfl) ?_
              refine (c_slices_symMergeCmpFunc_97__i_asMap_1 gxFuel w5178 out5159.2 p3403 c3404 sg5166 ho5167 out5159.1 (w64 (out5159.1 + s5115.1)) x3407 (M5179.hasPick [0]) (M5179.nodupPick [0] (by kernel_rfl)) hr5196).mono ?_
              rintro e_ w5200 ⟨sg5197, rfl, ho5198, hl5199, K5201⟩
              have M5202 := M5179.callF' [0] [] (by kernel_rfl) K5201
              refine ⟨_, rfl, ?_⟩
              refine W_conv 0 (.slice p3403 out5159.2.length c3404) (.slice p3403 r5196.length c3404) (by kernel_rfl) (by first | rw [hl5199] | rw [hl5199]) ?_
              refine W_conv 55 (.slice p3403 out5159.2.length c3404) (.slice p3403 r5196.length c3404) (by kernel_rfl) (by first | rw [hl5199] | rw [hl5199]) ?_
              refine W_nil ?_
              obtain rfl := Option.some.inj hm
              exact N_meet fun a ha => ⟨sg5197, ho5198, (hl5199.trans hl5168), M5202.pick [0] (by kernel_rfl), ha.sub (by kernel_rfl)⟩
            · refine G_cond_f (b := (decide ((w64 (out5159.1 + s5115.1)) < x3407))) hc5195 (by kernel_rfl) ?_
              refine G_skip ?_
              obtain rfl := Option.some.inj hm
              exact N_meet fun a ha => ⟨sg5166, ho5167, hl5168, M5179.pick [0] (by kernel_rfl), ha.sub (by kernel_rfl)⟩
          · intro a5205 w5203 ⟨sg5192, ho5193, hl5194, M5204, hS5206⟩
            refine N_use hS5206 ?_
            have hm := hm5191
            refine N_then ?_
            refine G_region ?_
            refine W_run 3 [(0, .slice p3403 o5189.length c3404), (1, .int .i64 x3407), (2, .func (.func 90) #[] #[]), (6, .int .i64 (w64 (s5115.1 * 2)))] w5203 (by kernel_rfl) ?_
            refine W_nil ?_
            refine N_block ?_
            obtain rfl := Option.some.inj hm
            exact N_loop fun a ha => ⟨_, rfl, sg5192, ho5193, hl5194, M5204.pick [0] (by kernel_rfl), ha.sub (by kernel_rfl)⟩
      · refine G_cond_f (b := (decide (s5115.1 < x3407))) hc5132 (by kernel_rfl) ?_
        refine G_exit ?_
        refine N_then_exit ?_
        refine N_then_exit ?_
        refine N_block_eq ?_
        obtain rfl := Option.some.inj hm
        obtain rfl := hout5117 _ rfl
        exact N_meet fun a ha => ⟨sg5125, ho5126, hl5127, M5120.pick [0] (by kernel_rfl), ha.sub (by kernel_rfl)⟩
    · intro a5207 w5208 ⟨sg5129, ho5130, hl5131, M5209, hS5210⟩
      refine N_use hS5210 ?_
      have hm := hmo5124
      obtain rfl := Option.some.inj hm
      refine N_end [] (RVs_nil) ?_
      exact ⟨sg5129, rfl, ho5130, hl5131, M5209.pick [0] (by kernel_rfl)⟩
theorem c_slices_SortStableFunc_89__i_asMap_1 (w : World) (x5212 : List Region) (p5214 : Option Addr) (c5215 : Nat) (sg5216 : Seg) (ho5217 : ownS encRegion x5212 p5214 c5215 sg5216) (hA : ∀ q ∈ List.flatten [sg5216], w.heap[q.1]? = some q.2) (hN : (idsOf [sg5216]).Nodup) {r : (List Region)} (hm : M.slices_SortStableFunc_89__i_asMap_1 x5212 = some r) :
    Calls Try.prog 89 #[.slice p5214 x5212.length c5215, .func (.func 90) #[] #[]] w fun e w' => ∃ (sg5218 : Seg), e = .returned (.tuple #[]) ∧ ownS encRegion r p5214 c5215 sg5218 ∧ r.length = x5212.length ∧ Mem (idsOf [sg5216]) w w' [sg5218] := by
  unfold M.slices_SortStableFunc_89__i_asMap_1 at hm
  refine C_enter Try.func89 rfl (by kernel_rfl) ?_
  have M0 := Mem.start' w [sg5216] hA hN
  refine G_region ?_
  refine W_run 4 [(4, .slice p5214 x5212.length c5215), (6, .int .i64 (x5212.length : Int)), (7, .func (.func 90) #[] #[])] w (by kernel_rfl) ?_
  obtain ⟨r5219, hr5219, hm⟩ := gx_bind hm
  refine W_call 94 #[.slice p5214 x5212.length c5215, .int .i64 (x5212.length : Int), .func (.func 90) #[] #[]] (by kernel_rfl) (by kernel_rfl) ?_
  refine (c_slices_stableCmpFunc_94__i_asMap_1 w x5212 p5214 c5215 sg5216 ho5217 (x5212.length : Int) (M0.hasPick [0]) (M0.nodupPick [0] (by kernel_rfl)) hr5219).mono ?_
  rintro e_ w5223 ⟨sg5220, rfl, ho5221, hl5222, K5224⟩
  have M5225 := M0.callF' [0] [] (by kernel_rfl) K5224
  refine ⟨_, rfl, ?_⟩
  refine W_conv 4 (.slice p5214 x5212.length c5215) (.slice p5214 r5219.length c5215) (by kernel_rfl) (by first | rw [hl5222] | rw [hl5222]) ?_
  refine W_nil ?_
  obtain rfl := Option.some.inj hm
  refine N_end [] (RVs_nil) ?_
  exact ⟨sg5220, rfl, ho5221, (hl5222.trans rfl), M5225.pick [0] (by kernel_rfl)⟩
theorem c_i_asMap (w : World) (x2183 : List Region) (p2185 : Option Addr) (c2186 : Nat) (h2187 : rdS encRegion w x2183 p2185 c2186) {r : (List Region) × Bool} (hm : M.i_asMap x2183 = some r) :
    Calls Try.prog 74 #[.slice p2185 x2183.length c2186] w fun e w' => ∃ (p2189 : Option Addr) (c2190 : Nat) (sg2191 : Seg), e = .returned (.tuple #[.slice p2189 r.1.length c2190, .bool r.2]) ∧ ownS encRegion r.1 p2189 c2190 sg2191 ∧ Mem [] w w' [sg2191] := by
  unfold M.i_asMap at hm
  refine C_enter Try.func74 rfl (by kernel_rfl) ?_
  have M0 := Mem.refl [] w
  refine G_seq ?_
  refine G_region ?_
  refine W_run 2 [(0, .slice p2185 x2183.length c2186)] w (by kernel_rfl) ?_
  refine W_nil ?_
  refine N_then ?_
  refine G_seq ?_
  refine G_region ?_
  refine W_lit (E := encRegion) ([] : List Region) 0 [] 59 M0 (by kernel_rfl) (by kernel_rfl) (by kernel_rfl) (by kernel_rfl) (by kernel_rfl) ?_
  intro p2193 c2194 sg2195 w2196 ho2197 M2198
  refine W_run 1 [(5, .slice p2193 ([] : List Region).length c2194), (6, .slice p2185 x2183.length c2186)] w2196 (by kernel_rfl) ?_
  obtain ⟨ap2200, hap2200, hm⟩ := gx_bind hm
  refine W_append (E := encRegion) _ _ _ 32 [.int .i64 0, .int .i64 0, .int .i64 0, .int .i64 0] 0 c2186 M2198 ho2197 (by kernel_rfl) (by kernel_rfl) (by kernel_rfl) rfl (by kernel_rfl) (by kernel_rfl) (by kernel_rfl) (by kernel_rfl) (by kernel_rfl) (by kernel_rfl) (h2187.mem0 M2198) hap2200 ?_
  intro p2201 c2202 sg2203 w2204 ho2205 M2206
  refine W_run 1 [(4, .slice p2201 ap2200.length c2202)] w2204 (by kernel_rfl) ?_
  refine W_nil ?_
  refine N_then ?_
  refine G_seq ?_
  refine G_region ?_
  refine W_run 1 [(4, .slice p2201 ap2200.length c2202), (8, .slice p2201 ap2200.length c2202)] w2204 (by kernel_rfl) ?_
  obtain ⟨r5226, hr5226, hm⟩ := gx_bind hm
  refine W_call 89 #[.slice p2201 ap2200.length c2202, .func (.func 90) #[] #[]] (by kernel_rfl) (by kernel_rfl) ?_
  refine (c_slices_SortStableFunc_89__i_asMap_1 w2204 ap2200 p2201 c2202 sg2203 ho2205 (M2206.hasPick [0]) (M2206.nodupPick [0] (by kernel_rfl)) hr5226).mono ?_
  rintro e_ w5230 ⟨sg5227, rfl, ho5228, hl5229, K5231⟩
  have M5232 := M2206.callF' [0] [] (by kernel_rfl) K5231
  refine ⟨_, rfl, ?_⟩
  refine W_conv 4 (.slice p2201 ap2200.length c2202) (.slice p2201 r5226.length c2202) (by kernel_rfl) (by first | rw [hl5229] | rw [hl5229]) ?_
  refine W_conv 8 (.slice p2201 ap2200.length c2202) (.slice p2201 r5226.length c2202) (by kernel_rfl) (by first | rw [hl5229] | rw [hl5229]) ?_
  refine W_nil ?_
  refine N_then ?_
  refine G_seq ?_
  refine G_seq ?_
  refine G_region ?_
  refine W_run 1 [(4, .slice p2201 r5226.length c2202), (10, .slice p2201 r5226.length c2202)] w5230 (by kernel_rfl) ?_
  obtain ⟨r5233, hr5233, hm⟩ := gx_bind hm
  refine W_call 49 #[.slice p2201 r5226.length c2202] (by kernel_rfl) (by kernel_rfl) ?_
  refine (c_i_IsMap w5230 r5226 p2201 c2202 (ho5228.rd M5232 0 (by kernel_rfl)) hr5233).mono ?_
  rintro e_ w5234 ⟨rfl, K5235⟩
  have M5236 := M5232.call0 K5235
  refine ⟨_, rfl, ?_⟩
  refine W_run 1 [(4, .slice p2201 r5226.length c2202), (12, .bool (!r5233))] w5234 (by kernel_rfl) ?_
  refine W_nil ?_
  refine N_then ?_
  rcases gx_bif hm with ⟨hc5237, hm⟩ | ⟨hc5237, hm⟩
  · refine G_cond_t (b := (!r5233)) hc5237 (by kernel_rfl) ?_
    refine G_seq ?_
    refine G_region ?_
    refine W_run 2 [(2, .slice none 0 0), (3, .bool false)] w5234 (by kernel_rfl) ?_
    refine W_nil ?_
    refine N_then ?_
    refine G_ret ?_
    refine N_then_ret ?_
    obtain rfl := Option.some.inj hm
    refine N_ret [.slice none 0 0, .bool false] (RVs_cons (RV_tmp (by kernel_rfl)) (RVs_cons (RV_tmp (by kernel_rfl)) RVs_nil)) ?_
    exact ⟨none, 0, [], rfl, ownS_nil, M5236.pick [100000] (by kernel_rfl)⟩
  · refine G_cond_f (b := (!r5233)) hc5237 (by kernel_rfl) ?_
    refine G_skip ?_
    refine N_then ?_
    refine G_seq ?_
    refine G_region ?_
    refine W_run 3 [(2, .slice p2201 r5226.length c2202), (3, .bool true)] w5234 (by kernel_rfl) ?_
    refine W_nil ?_
    refine N_then ?_
    refine G_ret ?_
    obtain rfl := Option.some.inj hm
    refine N_ret [.slice p2201 r5226.length c2202, .bool true] (RVs_cons (RV_tmp (by kernel_rfl)) (RVs_cons (RV_tmp (by kernel_rfl)) RVs_nil)) ?_
    exact ⟨p2201, c2202, sg5227, rfl, ho5228, M5236.pick [0] (by kernel_rfl)⟩
theorem c_i_PlaceRegion (w : World) (x1859 : List Region) (p1861 : Option Addr) (c1862 : Nat) (h1863 : rdS encRegion w x1859 p1861 c1862) (x1864 : Int) {r : Int × Bool} (hm : M.i_PlaceRegion x1859 x1864 = some r) :
    Calls Try.prog 33 #[.slice p1861 x1859.length c1862, .int .i64 x1864] w fun e w' => e = .returned (.tuple #[.int .i64 r.1, .bool r.2]) ∧ Mem [] w w' [] := by
  unfold M.i_PlaceRegion at hm
  refine C_enter Try.func33 rfl (by kernel_rfl) ?_
  have M0 := Mem.refl [] w
  refine G_seq ?_
  refine G_region ?_
  refine W_run 2 [(0, .slice p1861 x1859.length c1862), (1, .int .i64 x1864)] w (by kernel_rfl) ?_
  refine W_nil ?_
  refine N_then ?_
  refine G_seq ?_
  refine G_seq ?_
  obtain ⟨o2111, ho2112, hm2113⟩ := gx_bind hm
  refine G_meet (fun a w' => Mem [] w w' [] ∧ Sat Try.f33.ntmps [(0, .slice p1861 x1859.length c1862), (1, .int .i64 x1864), (21, .bool o2111)] a) ?_ ?_
  · have hm := ho2112
    refine G_region ?_
    refine W_run 1 [(0, .slice p1861 x1859.length c1862), (1, .int .i64 x1864), (9, .slice p1861 x1859.length c1862)] w (by kernel_rfl) ?_
    obtain ⟨r2114, hr2114, hm⟩ := gx_bind hm
    refine W_call 49 #[.slice p1861 x1859.length c1862] (by kernel_rfl) (by kernel_rfl) ?_
    refine (c_i_IsMap w x1859 p1861 c1862 (h1863.mem0 M0) hr2114).mono ?_
    rintro e_ w2115 ⟨rfl, K2116⟩
    have M2117 := M0.call0 K2116
    refine ⟨_, rfl, ?_⟩
    refine W_run 2 [(0, .slice p1861 x1859.length c1862), (1, .int .i64 x1864), (12, .bool (!r2114))] w2115 (by kernel_rfl) ?_
    rcases gx_bif hm with ⟨hc2118, hm⟩ | ⟨hc2118, hm⟩
    · refine W_known 12 true (by kernel_rfl) hc2118 ?_
      refine W_run 9 [(0, .slice p1861 x1859.length c1862), (1, .int .i64 x1864), (21, .bool true)] w2115 (by kernel_rfl) ?_
      refine W_nil ?_
      obtain rfl := Option.some.inj hm
      exact N_meet fun a ha => ⟨M2117.pick [] (by kernel_rfl), ha.sub (by kernel_rfl)⟩
    · refine W_known 12 false (by kernel_rfl) hc2118 ?_
      refine W_run 1 [(0, .slice p1861 x1859.length c1862), (1, .int .i64 x1864), (12, .bool false), (13, .int .i64 x1864)] w2115 (by kernel_rfl) ?_
      obtain ⟨r2119, hr2119, hm⟩ := gx_bind hm
      refine W_call 73 #[.int .i64 x1864] (by kernel_rfl) (by kernel_rfl) ?_
      refine (c_i_isSize w2115 x1864 hr2119).mono ?_
      rintro e_ w2120 ⟨rfl, K2121⟩
      have M2122 := M2117.call0 K2121
      refine ⟨_, rfl, ?_⟩
      refine W_run 3 [(0, .slice p1861 x1859.length c1862), (1, .int .i64 x1864), (17, .bool (!r2119))] w2120 (by kernel_rfl) ?_
      rcases gx_bif hm with ⟨hc2123, hm⟩ | ⟨hc2123, hm⟩
      · refine W_known 17 true (by kernel_rfl) hc2123 ?_
        refine W_run 4 [(0, .slice p1861 x1859.length c1862), (1, .int .i64 x1864), (21, .bool true)] w2120 (by kernel_rfl) ?_
        refine W_nil ?_
        obtain rfl := Option.some.inj hm
        exact N_meet fun a ha => ⟨M2122.pick [] (by kernel_rfl), ha.sub (by kernel_rfl)⟩
      · refine W_known 17 false (by kernel_rfl) hc2123 ?_
        refine W_run 4 [(0, .slice p1861 x1859.length c1862), (1, .int .i64 x1864), (21, .bool ((x1859.length : Int) == 6))] w2120 (by kernel_rfl) ?_
        refine W_nil ?_
        obtain rfl := Option.some.inj hm
        exact N_meet fun a ha => ⟨M2122.pick [] (by kernel_rfl), ha.sub (by kernel_rfl)⟩
  · intro a2126 w2124 ⟨M2125, hS2127⟩
    refine N_use hS2127 ?_
    have hm := hm2113
    refine N_then ?_
    rcases gx_bif hm with ⟨hc2128, hm⟩ | ⟨hc2128, hm⟩
    · refine G_cond_t (b := o2111) hc2128 (by kernel_rfl) ?_
      refine G_seq ?_
      refine G_region ?_
      refine W_run 2 [(4, .int .i64 0), (5, .bool false)] w2124 (by kernel_rfl) ?_
      refine W_nil ?_
      refine N_then ?_
      refine G_ret ?_
      refine N_then_ret ?_
      obtain rfl := Option.some.inj hm
      refine N_ret [.int .i64 0, .bool false] (RVs_cons (RV_tmp (by kernel_rfl)) (RVs_cons (RV_tmp (by kernel_rfl)) RVs_nil)) ?_
      exact ⟨rfl, M2125.pick [] (by kernel_rfl)⟩
    · refine G_cond_f (b := o2111) hc2128 (by kernel_rfl) ?_
      refine G_skip ?_
      refine N_then ?_
      refine G_seq ?_
      refine G_seq ?_
      refine G_region ?_
      refine W_run 1 [(0, .slice p1861 x1859.length c1862), (1, .int .i64 x1864), (6, .int .i64 0)] w2124 (by kernel_rfl) ?_
      refine W_nil ?_
      refine N_then ?_
      obtain ⟨out5291, hw5292, hmo5293⟩ := gx_bind hm
      refine G_meet (fun a w' => ∃ (o5294 : Unit), out5291 = .inl o5294 ∧ Mem [] w w' [] ∧ Sat Try.f33.ntmps [] a) ?_ ?_
      · refine G_block ?_
        refine G_while (σ := Int) (ρ := (Unit) ⊕ (Int × Bool)) (fun s5284 a w' => Mem [] w w' [] ∧ Sat Try.f33.ntmps [(0, .slice p1861 x1859.length c1862), (1, .int .i64 x1864), (6, .int .i64 s5284)] a) hw5292 (fun a ha => ⟨M2125.pick [] (by kernel_rfl), ha.sub (by kernel_rfl)⟩) ?_
        clear hm
        intro s5284 x5285 hm hout5286 a5287 w5288 ⟨M5289, hS5290⟩
        refine G_use hS5290 ?_
        refine G_seq ?_
        refine G_seq ?_
        refine G_region ?_
        refine W_run 4 [(0, .slice p1861 x1859.length c1862), (1, .int .i64 x1864), (6, .int .i64 s5284), (25, .bool (decide ((w64 (s5284 + x1864)) ≤ 65536)))] w5288 (by kernel_rfl) ?_
        refine W_nil ?_
        refine N_then ?_
        rcases gx_bif hm with ⟨hc5295, hm⟩ | ⟨hc5295, hm⟩
        · refine G_cond_t (b := (decide ((w64 (s5284 + x1864)) ≤ 65536))) hc5295 (by kernel_rfl) ?_
          refine G_skip ?_
          refine N_then ?_
          refine G_seq ?_
          refine G_block ?_
          refine G_seq ?_
          refine G_region ?_
          refine W_run 1 [(0, .slice p1861 x1859.length c1862), (1, .int .i64 x1864), (6, .int .i64 s5284), (30, .slice p1861 x1859.length c1862)] w5288 (by kernel_rfl) ?_
          obtain ⟨r5296, hr5296, hm⟩ := gx_bind hm
          refine W_call 75 #[.slice p1861 x1859.length c1862] (by kernel_rfl) (by kernel_rfl) ?_
          refine (c_slices_Clone_75 w5288 x1859 p1861 c1862 (h1863.mem0 M5289) hr5296).mono ?_
          rintro e_ w5302 ⟨p5298, c5299, sg5300, rfl, ho5301, K5303⟩
          have M5304 := M5289.call K5303
          refine ⟨_, rfl, ?_⟩
          refine W_run 3 [(0, .slice p1861 x1859.length c1862), (1, .int .i64 x1864), (6, .int .i64 s5284), (31, .slice p5298 r5296.length c5299), (34, .agg #[.int .i64 s5284, .int .i64 x1864, .int .i64 0, .int .i64 0])] w5302 (by kernel_rfl) ?_
          refine W_lit (E := encRegion) [(⟨s5284, x1864, 0, 0⟩ : Region)] 1 [.int .i64 s5284, .int .i64 x1864, .int .i64 0, .int .i64 0] 59 M5304 (by kernel_rfl) (by kernel_rfl) (by kernel_rfl) (by kernel_rfl) (by kernel_rfl) ?_
          intro p5305 c5306 sg5307 w5308 ho5309 M5310
          obtain ⟨ap5312, hap5312, hm⟩ := gx_bind hm
          refine W_append (E := encRegion) _ _ _ 32 [.int .i64 0, .int .i64 0, .int .i64 0, .int .i64 0] 0 c5306 M5310 ho5301 (by kernel_rfl) (by kernel_rfl) (by kernel_rfl) rfl (by kernel_rfl) (by kernel_rfl) (by kernel_rfl) (by kernel_rfl) (by kernel_rfl) (by kernel_rfl) (ho5309.rd M5310 1 (by kernel_rfl)) hap5312 ?_
          intro p5313 c5314 sg5315 w5316 ho5317 M5318
          obtain ⟨r5320, hr5320, hm⟩ := gx_bind hm
          refine W_call 74 #[.slice p5313 ap5312.length c5314] (by kernel_rfl) (by kernel_rfl) ?_
          refine (c_i_asMap w5316 ap5312 p5313 c5314 (ho5317.rd M5318 0 (by kernel_rfl)) hr5320).mono ?_
          rintro e_ w5326 ⟨p5322, c5323, sg5324, rfl, ho5325, K5327⟩
          have M5328 := M5318.call K5327
          refine ⟨_, rfl, ?_⟩
          refine W_run 5 [(0, .slice p1861 x1859.length c1862), (1, .int .i64 x1864), (6, .int .i64 s5284), (8, .bool r5320.2)] w5326 (by kernel_rfl) ?_
          refine W_nil ?_
          refine N_then ?_
          refine G_seq ?_
          refine G_region ?_
          refine W_run 1 [(0, .slice p1861 x1859.length c1862), (1, .int .i64 x1864), (6, .int .i64 s5284), (40, .bool r5320.2)] w5326 (by kernel_rfl) ?_
          refine W_nil ?_
          refine N_then ?_
          rcases gx_bif hm with ⟨hc5329, hm⟩ | ⟨hc5329, hm⟩
          · refine G_cond_t (b := r5320.2) hc5329 (by kernel_rfl) ?_
            refine G_seq ?_
            refine G_region ?_
            refine W_run 3 [(4, .int .i64 s5284), (5, .bool true)] w5326 (by kernel_rfl) ?_
            refine W_nil ?_
            refine N_then ?_
            refine G_ret ?_
            refine N_block_ret ?_
            refine N_then_ret ?_
            refine N_then_ret ?_
            obtain rfl := Option.some.inj hm
            obtain rfl := hout5286 _ rfl
            have hm := hmo5293; simp only [Sum.elim_inr] at hm
            refine N_block_ret ?_
            refine N_meet_ret ?_
            refine N_then_ret ?_
            obtain rfl := Option.some.inj hm
            refine N_ret [.int .i64 s5284, .bool true] (RVs_cons (RV_tmp (by kernel_rfl)) (RVs_cons (RV_tmp (by kernel_rfl)) RVs_nil)) ?_
            exact ⟨rfl, M5328.pick [] (by kernel_rfl)⟩
          · refine G_cond_f (b := r5320.2) hc5329 (by kernel_rfl) ?_
            refine G_skip ?_
            refine N_block ?_
            refine N_then ?_
            refine G_region ?_
            refine W_run 4 [(0, .slice p1861 x1859.length c1862), (1, .int .i64 x1864), (6, .int .i64 (w64 (s5284 + x1864)))] w5326 (by kernel_rfl) ?_
            refine W_nil ?_
            obtain rfl := Option.some.inj hm
            exact N_loop fun a ha => ⟨_, rfl, M5328.pick [] (by kernel_rfl), ha.sub (by kernel_rfl)⟩
        · refine G_cond_f (b := (decide ((w64 (s5284 + x1864)) ≤ 65536))) hc5295 (by kernel_rfl) ?_
          refine G_exit ?_
          refine N_then_exit ?_
          refine N_then_exit ?_
          refine N_block_eq ?_
          obtain rfl := Option.some.inj hm
          obtain rfl := hout5286 _ rfl
          exact N_meet fun a ha => ⟨_, rfl, M5289.pick [] (by kernel_rfl), ha.sub (by kernel_rfl)⟩
      · intro a5330 w5331 ⟨o5294, hout_, M5332, hS5333⟩
        refine N_use hS5333 ?_
        subst hout_
        have hm := hmo5293; simp only [Sum.elim_inl] at hm
        refine N_then ?_
        refine G_seq ?_
        refine G_region ?_
        refine W_run 2 [(4, .int .i64 0), (5, .bool false)] w5331 (by kernel_rfl) ?_
        refine W_nil ?_
        refine N_then ?_
        refine G_ret ?_
        obtain rfl := Option.some.inj hm
        refine N_ret [.int .i64 0, .bool false] (RVs_cons (RV_tmp (by kernel_rfl)) (RVs_cons (RV_tmp (by kernel_rfl)) RVs_nil)) ?_
        exact ⟨rfl, M5332.pick [] (by kernel_rfl)⟩
theorem c_s_PlaceRegion (w : World) (x5338 : List Region) (p5340 : Option Addr) (c5341 : Nat) (h5342 : rdS encRegion w x5338 p5340 c5341) (x5343 : Int) {r : Int × Bool} (hm : M.s_PlaceRegion x5338 x5343 = some r) :
    Calls Try.prog 32 #[.slice p5340 x5338.length c5341, .int .i64 x5343] w fun e w' => e = .returned (.tuple #[.int .i64 r.1, .bool r.2]) ∧ Mem [] w w' [] := by
  unfold M.s_PlaceRegion at hm
  refine C_enter Try.func32 rfl (by kernel_rfl) ?_
  have M0 := Mem.refl [] w
  refine G_seq ?_
  refine G_region ?_
  refine W_run 2 [(0, .slice p5340 x5338.length c5341), (1, .int .i64 x5343)] w (by kernel_rfl) ?_
  refine W_nil ?_
  refine N_then ?_
  refine G_seq ?_
  refine G_seq ?_
  obtain ⟨o5353, ho5354, hm5355⟩ := gx_bind hm
  refine G_meet (fun a w' => Mem [] w w' [] ∧ Sat Try.f32.ntmps [(0, .slice p5340 x5338.length c5341), (1, .int .i64 x5343), (14, .bool o5353)] a) ?_ ?_
  · have hm := ho5354
    refine G_region ?_
    refine W_run 1 [(0, .slice p5340 x5338.length c5341), (1, .int .i64 x5343), (7, .slice p5340 x5338.length c5341)] w (by kernel_rfl) ?_
    obtain ⟨r5356, hr5356, hm⟩ := gx_bind hm
    refine W_call 60 #[.slice p5340 x5338.length c5341] (by kernel_rfl) (by kernel_rfl) ?_
    refine (c_s_l17Good w x5338 p5340 c5341 (h5342.mem0 M0) hr5356).mono ?_
    rintro e_ w5357 ⟨rfl, K5358⟩
    have M5359 := M0.call0 K5358
    refine ⟨_, rfl, ?_⟩
    refine W_run 2 [(0, .slice p5340 x5338.length c5341), (1, .int .i64 x5343), (10, .bool (!r5356))] w5357 (by kernel_rfl) ?_
    rcases gx_bif hm with ⟨hc5360, hm⟩ | ⟨hc5360, hm⟩
    · refine W_known 10 true (by kernel_rfl) hc5360 ?_
      refine W_run 4 [(0, .slice p5340 x5338.length c5341), (1, .int .i64 x5343), (14, .bool true)] w5357 (by kernel_rfl) ?_
      refine W_nil ?_
      obtain rfl := Option.some.inj hm
      exact N_meet fun a ha => ⟨M5359.pick [] (by kernel_rfl), ha.sub (by kernel_rfl)⟩
    · refine W_known 10 false (by kernel_rfl) hc5360 ?_
      refine W_run 1 [(0, .slice p5340 x5338.length c5341), (1, .int .i64 x5343), (10, .bool false), (11, .int .i64 x5343)] w5357 (by kernel_rfl) ?_
      obtain ⟨r5361, hr5361, hm⟩ := gx_bind hm
      refine W_call 71 #[.int .i64 x5343] (by kernel_rfl) (by kernel_rfl) ?_
      refine (c_s_l17Size w5357 x5343 hr5361).mono ?_
      rintro e_ w5362 ⟨rfl, K5363⟩
      have M5364 := M5359.call0 K5363
      refine ⟨_, rfl, ?_⟩
      refine W_run 2 [(0, .slice p5340 x5338.length c5341), (1, .int .i64 x5343), (14, .bool (!r5361))] w5362 (by kernel_rfl) ?_
      refine W_nil ?_
      obtain rfl := Option.some.inj hm
      exact N_meet fun a ha => ⟨M5364.pick [] (by kernel_rfl), ha.sub (by kernel_rfl)⟩
  · intro a5367 w5365 ⟨M5366, hS5368⟩
    refine N_use hS5368 ?_
    have hm := hm5355
    refine N_then ?_
    rcases gx_bif hm with ⟨hc5369, hm⟩ | ⟨hc5369, hm⟩
    · refine G_cond_t (b := o5353) hc5369 (by kernel_rfl) ?_
      refine G_seq ?_
      refine G_region ?_
      refine W_run 2 [(4, .int .i64 0), (5, .bool false)] w5365 (by kernel_rfl) ?_
      refine W_nil ?_
      refine N_then ?_
      refine G_ret ?_
      refine N_then_ret ?_
      obtain rfl := Option.some.inj hm
      refine N_ret [.int .i64 0, .bool false] (RVs_cons (RV_tmp (by kernel_rfl)) (RVs_cons (RV_tmp (by kernel_rfl)) RVs_nil)) ?_
      exact ⟨rfl, M5366.pick [] (by kernel_rfl)⟩
    · refine G_cond_f (b := o5353) hc5369 (by kernel_rfl) ?_
      refine G_skip ?_
      refine N_then ?_
      refine G_seq ?_
      refine G_seq ?_
      refine G_region ?_
      refine W_run 1 [(0, .slice p5340 x5338.length c5341), (1, .int .i64 x5343), (6, .int .i64 0)] w5365 (by kernel_rfl) ?_
      refine W_nil ?_
      refine N_then ?_
      obtain ⟨out5407, hw5408, hmo5409⟩ := gx_bind hm
      refine G_meet (fun a w' => ∃ (o5410 : Unit), out5407 = .inl o5410 ∧ Mem [] w w' [] ∧ Sat Try.f32.ntmps [] a) ?_ ?_
      · refine G_block ?_
        refine G_while (σ := Int) (ρ := (Unit) ⊕ (Int × Bool)) (fun s5400 a w' => Mem [] w w' [] ∧ Sat Try.f32.ntmps [(0, .slice p5340 x5338.length c5341), (1, .int .i64 x5343), (6, .int .i64 s5400)] a) hw5408 (fun a ha => ⟨M5366.pick [] (by kernel_rfl), ha.sub (by kernel_rfl)⟩) ?_
        clear hm
        intro s5400 x5401 hm hout5402 a5403 w5404 ⟨M5405, hS5406⟩
        refine G_use hS5406 ?_
        refine G_seq ?_
        refine G_seq ?_
        refine G_region ?_
        refine W_run 2 [(0, .slice p5340 x5338.length c5341), (1, .int .i64 x5343), (6, .int .i64 s5400), (16, .bool (decide (s5400 < 65536)))] w5404 (by kernel_rfl) ?_
        refine W_nil ?_
        refine N_then ?_
        rcases gx_bif hm with ⟨hc5411, hm⟩ | ⟨hc5411, hm⟩
        · refine G_cond_t (b := (decide (s5400 < 65536))) hc5411 (by kernel_rfl) ?_
          refine G_skip ?_
          refine N_then ?_
          refine G_seq ?_
          refine G_block ?_
          refine G_seq ?_
          refine G_region ?_
          refine W_run 4 [(0, .slice p5340 x5338.length c5341), (1, .int .i64 x5343), (6, .int .i64 s5400), (20, .slice p5340 x5338.length c5341), (23, .agg #[.int .i64 s5400, .int .i64 x5343, .int .i64 0, .int .i64 0])] w5404 (by kernel_rfl) ?_
          obtain ⟨r5412, hr5412, hm⟩ := gx_bind hm
          refine W_call 72 #[.slice p5340 x5338.length c5341, .agg #[.int .i64 s5400, .int .i64 x5343, .int .i64 0, .int .i64 0]] (by kernel_rfl) (by kernel_rfl) ?_
          refine (c_s_l17Add w5404 x5338 p5340 c5341 (h5342.mem0 M5405) (⟨s5400, x5343, 0, 0⟩ : Region) hr5412).mono ?_
          rintro e_ w5418 ⟨p5414, c5415, sg5416, rfl, ho5417, K5419⟩
          have M5420 := M5405.call K5419
          refine ⟨_, rfl, ?_⟩
          obtain ⟨r5421, hr5421, hm⟩ := gx_bind hm
          refine W_call 60 #[.slice p5414 r5412.length c5415] (by kernel_rfl) (by kernel_rfl) ?_
          refine (c_s_l17Good w5418 r5412 p5414 c5415 (ho5417.rd M5420 0 (by kernel_rfl)) hr5421).mono ?_
          rintro e_ w5422 ⟨rfl, K5423⟩
          have M5424 := M5420.call0 K5423
          refine ⟨_, rfl, ?_⟩
          refine W_nil ?_
          refine N_then ?_
          rcases gx_bif hm with ⟨hc5425, hm⟩ | ⟨hc5425, hm⟩
          · refine G_cond_t (b := r5421) hc5425 (by kernel_rfl) ?_
            refine G_seq ?_
            refine G_region ?_
            refine W_run 3 [(4, .int .i64 s5400), (5, .bool true)] w5422 (by kernel_rfl) ?_
            refine W_nil ?_
            refine N_then ?_
            refine G_ret ?_
            refine N_block_ret ?_
            refine N_then_ret ?_
            refine N_then_ret ?_
            obtain rfl := Option.some.inj hm
            obtain rfl := hout5402 _ rfl
            have hm := hmo5409; simp only [Sum.elim_inr] at hm
            refine N_block_ret ?_
            refine N_meet_ret ?_
            refine N_then_ret ?_
            obtain rfl := Option.some.inj hm
            refine N_ret [.int .i64 s5400, .bool true] (RVs_cons (RV_tmp (by kernel_rfl)) (RVs_cons (RV_tmp (by kernel_rfl)) RVs_nil)) ?_
            exact ⟨rfl, M5424.pick [] (by kernel_rfl)⟩
          · refine G_cond_f (b := r5421) hc5425 (by kernel_rfl) ?_
            refine G_skip ?_
            refine N_block ?_
            refine N_then ?_
            refine G_region ?_
            refine W_run 4 [(0, .slice p5340 x5338.length c5341), (1, .int .i64 x5343), (6, .int .i64 (w64 (s5400 + x5343)))] w5422 (by kernel_rfl) ?_
            refine W_nil ?_
            obtain rfl := Option.some.inj hm
            exact N_loop fun a ha => ⟨_, rfl, M5424.pick [] (by kernel_rfl), ha.sub (by kernel_rfl)⟩
        · refine G_cond_f (b := (decide (s5400 < 65536))) hc5411 (by kernel_rfl) ?_
          refine G_exit ?_
          refine N_then_exit ?_
          refine N_then_exit ?_
          refine N_block_eq ?_
          obtain rfl := Option.some.inj hm
          obtain rfl := hout5402 _ rfl
          exact N_meet fun a ha => ⟨_, rfl, M5405.pick [] (by kernel_rfl), ha.sub (by kernel_rfl)⟩
      · intro a5426 w5427 ⟨o5410, hout_, M5428, hS5429⟩
        refine N_use hS5429 ?_
        subst hout_
        have hm := hmo5409; simp only [Sum.elim_inl] at hm
        refine N_then ?_
        refine G_seq ?_
        refine G_region ?_
        refine W_run 2 [(4, .int .i64 0), (5, .bool false)] w5427 (by kernel_rfl) ?_
        refine W_nil ?_
        refine N_then ?_
        refine G_ret ?_
        obtain rfl := Option.some.inj hm
        refine N_ret [.int .i64 0, .bool false] (RVs_cons (RV_tmp (by kernel_rfl)) (RVs_cons (RV_tmp (by kernel_rfl)) RVs_nil)) ?_
        exact ⟨rfl, M5428.pick [] (by kernel_rfl)⟩
theorem c_i_AddRegion (w : World) (x5445 : List Region) (p5447 : Option Addr) (c5448 : Nat) (h5449 : rdS encRegion w x5445 p5447 c5448) (x5450 : Region) {r : (List Region) × Bool} (hm : M.i_AddRegion x5445 x5450 = some r) :
    Calls Try.prog 36 #[.slice p5447 x5445.length c5448, .agg #[.int .i64 x5450.Base, .int .i64 x5450.Size, .int .i64 x5450.Kind, .int .i64 x5450.Unit]] w fun e w' => ∃ (p5452 : Option Addr) (c5453 : Nat) (sg5454 : Seg), e = .returned (.tuple #[.slice p5452 r.1.length c5453, .bool r.2]) ∧ ownS encRegion r.1 p5452 c5453 sg5454 ∧ Mem [] w w' [sg5454] := by
  unfold M.i_AddRegion at hm
  refine C_enter Try.func36 rfl (by kernel_rfl) ?_
  have M0 := Mem.refl [] w
  refine G_seq ?_
  refine G_region ?_
  refine W_new (fun b => .pointer (some ⟨b, 0, none⟩)) (.cells ⟨[.int .i64 x5450.Base, .int .i64 x5450.Size, .int .i64 x5450.Kind, .int .i64 x5450.Unit]⟩ 59 (0, 0)) M0 rfl (by kernel_rfl) (by kernel_rfl) ?_
  intro b5456 w5457 M5458
  refine W_run 2 [(0, .slice p5447 x5445.length c5448), (3, .pointer (some ⟨b5456, 0, none⟩))] w5457 (by kernel_rfl) ?_
  refine W_nil ?_
  refine N_then ?_
  refine G_seq ?_
  refine G_seq ?_
  refine G_region ?_
  refine W_run 1 [(0, .slice p5447 x5445.length c5448), (3, .pointer (some ⟨b5456, 0, none⟩)), (6, .slice p5447 x5445.length c5448)] w5457 (by kernel_rfl) ?_
  obtain ⟨r5460, hr5460, hm⟩ := gx_bind hm
  refine W_call 49 #[.slice p5447 x5445.length c5448] (by kernel_rfl) (by kernel_rfl) ?_
  refine (c_i_IsMap w5457 x5445 p5447 c5448 (h5449.mem0 M5458) hr5460).mono ?_
  rintro e_ w5461 ⟨rfl, K5462⟩
  have M5463 := M5458.call0 K5462
  refine ⟨_, rfl, ?_⟩
  refine W_run 1 [(0, .slice p5447 x5445.length c5448), (3, .pointer (some ⟨b5456, 0, none⟩)), (8, .bool (!r5460))] w5461 (by kernel_rfl) ?_
  refine W_nil ?_
  refine N_then ?_
  rcases gx_bif hm with ⟨hc5464, hm⟩ | ⟨hc5464, hm⟩
  · refine G_cond_t (b := (!r5460)) hc5464 (by kernel_rfl) ?_
    refine G_seq ?_
    refine G_region ?_
    refine W_run 2 [(4, .slice none 0 0), (5, .bool false)] w5461 (by kernel_rfl) ?_
    refine W_nil ?_
    refine N_then ?_
    refine G_ret ?_
    refine N_then_ret ?_
    obtain rfl := Option.some.inj hm
    refine N_ret [.slice none 0 0, .bool false] (RVs_cons (RV_tmp (by kernel_rfl)) (RVs_cons (RV_tmp (by kernel_rfl)) RVs_nil)) ?_
    exact ⟨none, 0, [], rfl, ownS_nil, M5463.pick [100000] (by kernel_rfl)⟩
  · refine G_cond_f (b := (!r5460)) hc5464 (by kernel_rfl) ?_
    refine G_skip ?_
    refine N_then ?_
    refine G_seq ?_
    obtain ⟨r5468, hr5468, hm⟩ := gx_bind hm
    obtain ⟨ap5479, hap5479, hm⟩ := gx_bind hm
    obtain ⟨r5485, hr5485, hm⟩ := gx_bind hm
    refine G_sub [(0, .slice p5447 x5445.length c5448), (3, .pointer (some ⟨b5456, 0, none⟩)), (8, .bool (!r5460))] (by kernel_rfl) ?_
    refine G_dagL 8 [[], [0], [], [2], [1, 3], [4], [], []] [[], [], [], [], [1], [], [], []] [[], [], [], [], [3], [4], [], []] [[], [], [], [], [], [], [5], [5]] [[], [], [], [], [], [], [5], []] [[], [], [], [], [], [], [], []] (fun _ => []) (fun i => ([fun f v s => v = (.slice p5447 x5445.length c5448 : Value) ∧ s = [], fun f v s => ∃ (p5470 : Option Addr) (c5471 : Nat), v = (.slice p5470 r5468.length c5471 : Value) ∧ ownS encRegion r5468 p5470 c5471 s, fun f v s => v = (.agg #[.int .i64 x5450.Base, .int .i64 x5450.Size, .int .i64 x5450.Kind, .int .i64 x5450.Unit] : Value) ∧ s = [], fun f v s => ∃ (p5475 : Option Addr) (c5476 : Nat), v = (.slice p5475 [x5450].length c5476 : Value) ∧ ownS encRegion [x5450] p5475 c5476 s, fun f v s => ∃ (p5481 : Option Addr) (c5482 : Nat), v = (.slice p5481 ap5479.length c5482 : Value) ∧ ownS encRegion ap5479 p5481 c5482 s, fun f v s => ∃ (p5487 : Option Addr) (c5488 : Nat), v = (.tuple #[.slice p5487 r5485.1.length c5488, .bool r5485.2] : Value) ∧ ownS encRegion r5485.1 p5487 c5488 s, fun f v s => v = ((atPath (f 5) [0]) : Value) ∧ s = [], fun f v s => v = (.bool r5485.2 : Value) ∧ s = []] : List ((Nat → Value) → Value → Seg → Prop)).getD i (fun _ _ _ => False)) (fun j f v => ∃ s, (fun i => ([fun f v s => v = (.slice p5447 x5445.length c5448 : Value) ∧ s = [], fun f v s => ∃ (p5470 : Option Addr) (c5471 : Nat), v = (.slice p5470 r5468.length c5471 : Value) ∧ ownS encRegion r5468 p5470 c5471 s, fun f v s => v = (.agg #[.int .i64 x5450.Base, .int .i64 x5450.Size, .int .i64 x5450.Kind, .int .i64 x5450.Unit] : Value) ∧ s = [], fun f v s => ∃ (p5475 : Option Addr) (c5476 : Nat), v = (.slice p5475 [x5450].length c5476 : Value) ∧ ownS encRegion [x5450] p5475 c5476 s, fun f v s => ∃ (p5481 : Option Addr) (c5482 : Nat), v = (.slice p5481 ap5479.length c5482 : Value) ∧ ownS encRegion ap5479 p5481 c5482 s, fun f v s => ∃ (p5487 : Option Addr) (c5488 : Nat), v = (.tuple #[.slice p5487 r5485.1.length c5488, .bool r5485.2] : Value) ∧ ownS encRegion r5485.1 p5487 c5488 s, fun f v s => v = ((atPath (f 5) [0]) : Value) ∧ s = [], fun f v s => v = (.bool r5485.2 : Value) ∧ s = []] : List ((Nat → Value) → Value → Seg → Prop)).getD i (fun _ _ _ => False)) j f v s) [] [3, 4, 5, 6, 7] [3, 4, 5] (fun _ _ _ s h => ⟨s, h⟩) (by kernel_rfl) (by kernel_rfl) (M5463.preNil 8) (by kernel_rfl) (by kernel_rfl) (by kernel_rfl) (by kernel_rfl) (allOb_cons ?_ (allOb_cons ?_ (allOb_cons ?_ (allOb_cons ?_ (allOb_cons ?_ (allOb_cons ?_ (allOb_cons ?_ (allOb_cons ?_ allOb_nil)))))))) ?_
    · intro g5466 f5467
      intro R w5491 M5492
      refine W_run 1 [(9, .slice p5447 x5445.length c5448)] w5491 (by kernel_rfl) ?_
      exact W_nil (ob_end (.slice p5447 x5445.length c5448) [] rfl (by kernel_rfl) ⟨by kernel_rfl, rfl⟩ M5492)
    · intro g5466 f5467
      intro v0_ hb0_
      obtain ⟨rfl, _⟩ := hb0_
      intro R w5495 M5496
      refine W_call 75 #[.slice p5447 x5445.length c5448] (by kernel_rfl) (by kernel_rfl) ?_
      refine (c_slices_Clone_75 w5495 x5445 p5447 c5448 (h5449.mem0 M5496) hr5468).mono ?_
      rintro e_ w5497 ⟨p5470, c5471, sg5472, rfl, ho5473, K5499⟩
      refine ⟨_, rfl, ?_⟩
      exact W_nil (ob_end (.slice p5470 r5468.length c5471) sg5472 rfl (by kernel_rfl) ⟨p5470, c5471, rfl, ho5473⟩ (Mem.callMid M5496 K5499))
    · intro g5466 f5467
      intro R w5500 M5501
      refine W_val (.agg #[.int .i64 x5450.Base, .int .i64 x5450.Size, .int .i64 x5450.Kind, .int .i64 x5450.Unit]) w5500 (by kernel_rfl) (E_load (e := 59) (fr := (0, 0)) _ _ true 4 b5456 0 [.int .i64 x5450.Base, .int .i64 x5450.Size, .int .i64 x5450.Kind, .int .i64 x5450.Unit] (.agg #[.int .i64 x5450.Base, .int .i64 x5450.Size, .int .i64 x5450.Kind, .int .i64 x5450.Unit]) rfl (by kernel_rfl) (by kernel_rfl) (by kernel_rfl) (M5501.blk 0 (b := b5456) (o := .cells ⟨[.int .i64 x5450.Base, .int .i64 x5450.Size, .int .i64 x5450.Kind, .int .i64 x5450.Unit]⟩ 59 (0, 0)) (by kernel_rfl))) ?_
      exact W_nil (ob_end (.agg #[.int .i64 x5450.Base, .int .i64 x5450.Size, .int .i64 x5450.Kind, .int .i64 x5450.Unit]) [] rfl (by kernel_rfl) ⟨by kernel_rfl, rfl⟩ M5501)
    · intro g5466 f5467
      intro v2_ hb2_
      obtain ⟨rfl, _⟩ := hb2_
      intro R w5504 M5505
      refine W_lit (E := encRegion) [x5450] 1 [.int .i64 x5450.Base, .int .i64 x5450.Size, .int .i64 x5450.Kind, .int .i64 x5450.Unit] 59 M5505 (by kernel_rfl) (by kernel_rfl) (by kernel_rfl) (by kernel_rfl) (by kernel_rfl) ?_
      intro p5475 c5476 sg5477 w5506 ho5478 M5507
      exact W_nil (ob_end (.slice p5475 [x5450].length c5476) sg5477 rfl (by kernel_rfl) ⟨p5475, c5476, rfl, ho5478⟩ (Mem.mid M5507))
    · intro g5466 f5467
      intro v1_ hb1_
      obtain ⟨p5470, c5471, rfl, ho5473⟩ := hb1_
      intro v3_ hb3_
      obtain ⟨p5475, c5476, rfl, ho5478⟩ := hb3_
      intro R w5508 M5509
      refine W_append (E := encRegion) _ _ _ 32 [.int .i64 0, .int .i64 0, .int .i64 0, .int .i64 0] 2 c5476 M5509 ho5473 (by kernel_rfl) (by kernel_rfl) (by kernel_rfl) rfl (by kernel_rfl) (by kernel_rfl) (by kernel_rfl) (by kernel_rfl) (by kernel_rfl) (by kernel_rfl) (ho5478.rd M5509 3 (by kernel_rfl)) hap5479 ?_
      intro p5481 c5482 sg5483 w5510 ho5484 M5511
      exact W_nil (ob_end (.slice p5481 ap5479.length c5482) sg5483 rfl (by kernel_rfl) ⟨p5481, c5482, rfl, ho5484⟩ (Mem.takeOver M5511))
    · intro g5466 f5467
      intro v4_ hb4_
      obtain ⟨p5481, c5482, rfl, ho5484⟩ := hb4_
      intro R w5512 M5513
      refine W_call 74 #[.slice p5481 ap5479.length c5482] (by kernel_rfl) (by kernel_rfl) ?_
      refine (c_i_asMap w5512 ap5479 p5481 c5482 (ho5484.rd M5513 2 (by kernel_rfl)) hr5485).mono ?_
      rintro e_ w5514 ⟨p5487, c5488, sg5489, rfl, ho5490, K5516⟩
      refine ⟨_, rfl, ?_⟩
      exact W_nil (ob_end (.tuple #[.slice p5487 r5485.1.length c5488, .bool r5485.2]) sg5489 rfl (by kernel_rfl) ⟨p5487, c5488, rfl, ho5490⟩ (Mem.callMid M5513 K5516))
    · intro g5466 f5467
      intro v5_ hb5_
      obtain ⟨_, p5487, c5488, rfl, _⟩ := hb5_
      intro R w5517 M5518
      refine W_run 1 [(15, .slice p5487 r5485.1.length c5488)] w5517 (by kernel_rfl) ?_
      exact W_nil (ob_end (.slice p5487 r5485.1.length c5488) [] rfl (by kernel_rfl) ⟨by kernel_rfl, rfl⟩ M5518)
    · intro g5466 f5467
      intro v5_ hb5_
      obtain ⟨_, p5487, c5488, rfl, _⟩ := hb5_
      intro R w5521 M5522
      refine W_run 1 [(16, .bool r5485.2)] w5521 (by kernel_rfl) ?_
      exact W_nil (ob_end (.bool r5485.2) [] rfl (by kernel_rfl) ⟨by kernel_rfl, rfl⟩ M5522)
    · intro g5466 f5467
      intro v3_ hb3_
      obtain ⟨p5475, c5476, rfl, ho5478⟩ := hb3_
      intro v4_ hb4_
      obtain ⟨p5481, c5482, rfl, ho5484⟩ := hb4_
      intro v5_ hb5_
      obtain ⟨p5487, c5488, rfl, ho5490⟩ := hb5_
      intro v6_ hb6_
      obtain ⟨hv6_, _⟩ := hb6_
      obtain rfl : v6_ = (.slice p5487 r5485.1.length c5488 : Value) := hv6_.trans (by kernel_rfl)
      intro v7_ hb7_
      obtain ⟨rfl, _⟩ := hb7_
      intro w5525 M5526
      have M5527 : Mem [] w w5525 [[(b5456, .cells ⟨[.int .i64 x5450.Base, .int .i64 x5450.Size, .int .i64 x5450.Kind, .int .i64 x5450.Unit]⟩ 59 (0, 0))], (g5466 3), (g5466 4), (g5466 5)] := M5526
      refine W_run 2 [(4, .slice p5487 r5485.1.length c5488), (5, .bool r5485.2)] w5525 (by kernel_rfl) ?_
      refine W_nil ?_
      refine N_then ?_
      refine G_ret ?_
      obtain rfl := Option.some.inj hm
      refine N_ret [.slice p5487 r5485.1.length c5488, .bool r5485.2] (RVs_cons (RV_tmp (by kernel_rfl)) (RVs_cons (RV_tmp (by kernel_rfl)) RVs_nil)) ?_
      exact ⟨p5487, c5488, (g5466 5), rfl, ho5490, M5527.pick [3] (by kernel_rfl)⟩
theorem c_i_FreeSpace (w : World) (x5537 : List Region) (p5539 : Option Addr) (c5540 : Nat) (h5541 : rdS encRegion w x5537 p5539 c5540) {r : Int × Bool} (hm : M.i_FreeSpace x5537 = some r) :
    Calls Try.prog 48 #[.slice p5539 x5537.length c5540] w fun e w' => e = .returned (.tuple #[.int .i64 r.1, .bool r.2]) ∧ Mem [] w w' [] := by
  unfold M.i_FreeSpace at hm
  refine C_enter Try.func48 rfl (by kernel_rfl) ?_
  have M0 := Mem.refl [] w
  refine G_seq ?_
  refine G_region ?_
  refine W_run 2 [(0, .slice p5539 x5537.length c5540)] w (by kernel_rfl) ?_
  refine W_nil ?_
  refine N_then ?_
  refine G_seq ?_
  refine G_seq ?_
  refine G_region ?_
  refine W_run 1 [(0, .slice p5539 x5537.length c5540), (7, .slice p5539 x5537.length c5540)] w (by kernel_rfl) ?_
  obtain ⟨r5542, hr5542, hm⟩ := gx_bind hm
  refine W_call 49 #[.slice p5539 x5537.length c5540] (by kernel_rfl) (by kernel_rfl) ?_
  refine (c_i_IsMap w x5537 p5539 c5540 (h5541.mem0 M0) hr5542).mono ?_
  rintro e_ w5543 ⟨rfl, K5544⟩
  have M5545 := M0.call0 K5544
  refine ⟨_, rfl, ?_⟩
  refine W_run 1 [(0, .slice p5539 x5537.length c5540), (9, .bool (!r5542))] w5543 (by kernel_rfl) ?_
  refine W_nil ?_
  refine N_then ?_
  rcases gx_bif hm with ⟨hc5546, hm⟩ | ⟨hc5546, hm⟩
  · refine G_cond_t (b := (!r5542)) hc5546 (by kernel_rfl) ?_
    refine G_seq ?_
    refine G_region ?_
    refine W_run 2 [(2, .int .i64 0), (3, .bool false)] w5543 (by kernel_rfl) ?_
    refine W_nil ?_
    refine N_then ?_
    refine G_ret ?_
    refine N_then_ret ?_
    obtain rfl := Option.some.inj hm
    refine N_ret [.int .i64 0, .bool false] (RVs_cons (RV_tmp (by kernel_rfl)) (RVs_cons (RV_tmp (by kernel_rfl)) RVs_nil)) ?_
    exact ⟨rfl, M5545.pick [] (by kernel_rfl)⟩
  · refine G_cond_f (b := (!r5542)) hc5546 (by kernel_rfl) ?_
    refine G_skip ?_
    refine N_then ?_
    refine G_seq ?_
    refine G_region ?_
    refine W_run 1 [(0, .slice p5539 x5537.length c5540), (4, .int .i64 65536)] w5543 (by kernel_rfl) ?_
    refine W_nil ?_
    refine N_then ?_
    refine G_seq ?_
    refine G_seq ?_
    refine G_region ?_
    refine W_run 3 [(4, .int .i64 65536), (10, .slice p5539 x5537.length c5540), (11, .int .i64 (x5537.length : Int)), (12, .int .i64 0)] w5543 (by kernel_rfl) ?_
    refine W_nil ?_
    refine N_then ?_
    obtain ⟨out5570, hw5571, hmo5572⟩ := gx_bind hm
    refine G_meet (fun a w' => Mem [] w w' [] ∧ Sat Try.f48.ntmps [(4, .int .i64 out5570)] a) ?_ ?_
    · refine G_block ?_
      refine G_while (σ := Int × Int) (ρ := Int) (fun s5563 a w' => Mem [] w w' [] ∧ Sat Try.f48.ntmps [(4, .int .i64 s5563.1), (10, .slice p5539 x5537.length c5540), (11, .int .i64 (x5537.length : Int)), (12, .int .i64 s5563.2)] a) hw5571 (fun a ha => ⟨M5545.pick [] (by kernel_rfl), ha.sub (by kernel_rfl)⟩) ?_
      clear hm
      intro s5563 x5564 hm hout5565 a5566 w5567 ⟨M5568, hS5569⟩
      refine G_use hS5569 ?_
      refine G_seq ?_
      refine G_region ?_
      refine W_run 1 [(4, .int .i64 s5563.1), (10, .slice p5539 x5537.length c5540), (11, .int .i64 (x5537.length : Int)), (12, .int .i64 s5563.2), (13, .bool (decide (s5563.2 < (x5537.length : Int))))] w5567 (by kernel_rfl) ?_
      refine W_nil ?_
      refine N_then ?_
      refine G_seq ?_
      rcases gx_bif hm with ⟨hc5574, hm⟩ | ⟨hc5574, hm⟩
      · refine G_cond_t (b := (decide (s5563.2 < (x5537.length : Int)))) hc5574 (by kernel_rfl) ?_
        refine G_skip ?_
        refine N_then ?_
        refine G_seq ?_
        refine G_block ?_
        refine G_seq ?_
        refine G_region ?_
        obtain ⟨y5575, hy5575, hm⟩ := gx_bind hm
        refine W_val (elemP p5539 (s5563.2.toNat * 4)) w5567 (by kernel_rfl) (E_index (E := encRegion) _ _ _ x5537.length c5540 .i64 s5563.2 4 (y := y5575) rfl (by kernel_rfl) (by kernel_rfl) (by kernel_rfl) (h5541.mem0 M5568) rfl hy5575) ?_
        refine W_val (.agg #[.int .i64 y5575.Base, .int .i64 y5575.Size, .int .i64 y5575.Kind, .int .i64 y5575.Unit]) w5567 (by kernel_rfl) (E_loadE (E := encRegion) _ _ true 4 s5563.2 0 (s5563.2.toNat * 4) y5575 (.agg #[.int .i64 y5575.Base, .int .i64 y5575.Size, .int .i64 y5575.Kind, .int .i64 y5575.Unit]) rfl (by kernel_rfl) (by kernel_rfl) (by kernel_rfl) (h5541.mem0 M5568) hy5575 rfl) ?_
        refine W_new (fun b => .pointer (some ⟨b, 0, none⟩)) (.cells ⟨[.int .i64 0, .int .i64 0, .int .i64 0, .int .i64 0]⟩ 59 (0, 0)) M5568 rfl (by kernel_rfl) (by kernel_rfl) ?_
        intro b5577 w5578 M5579
        refine W_store _ _ _ true 4 b5577 0 [.int .i64 0, .int .i64 0, .int .i64 0, .int .i64 0] 59 (.agg #[.int .i64 y5575.Base, .int .i64 y5575.Size, .int .i64 y5575.Kind, .int .i64 y5575.Unit]) 0 [.int .i64 y5575.Base, .int .i64 y5575.Size, .int .i64 y5575.Kind, .int .i64 y5575.Unit] M5579 (by kernel_rfl) rfl (by kernel_rfl) (by kernel_rfl) (by kernel_rfl) (by kernel_rfl) (by kernel_rfl) (by kernel_rfl) (by kernel_rfl) (by kernel_rfl) ?_
        intro w5580 M5581
        refine W_nil ?_
        refine N_then ?_
        refine G_region ?_
        refine W_run 2 [(4, .int .i64 s5563.1), (10, .slice p5539 x5537.length c5540), (11, .int .i64 (x5537.length : Int)), (12, .int .i64 s5563.2), (16, .int .i64 s5563.1), (17, .pointer (some ⟨b5577, 1, none⟩))] w5580 (by kernel_rfl) ?_
        refine W_val (.int .i64 y5575.Size) w5580 (by kernel_rfl) (E_load (e := 59) (fr := (0, 0)) _ _ false 1 b5577 1 [.int .i64 y5575.Base, .int .i64 y5575.Size, .int .i64 y5575.Kind, .int .i64 y5575.Unit] (.int .i64 y5575.Size) rfl (by kernel_rfl) (by kernel_rfl) (by kernel_rfl) (M5581.blk 0 (b := b5577) (o := .cells ⟨[.int .i64 y5575.Base, .int .i64 y5575.Size, .int .i64 y5575.Kind, .int .i64 y5575.Unit]⟩ 59 (0, 0)) (by kernel_rfl))) ?_
        refine W_run 2 [(4, .int .i64 (w64 (s5563.1 - y5575.Size))), (10, .slice p5539 x5537.length c5540), (11, .int .i64 (x5537.length : Int)), (12, .int .i64 s5563.2)] w5580 (by kernel_rfl) ?_
        refine W_nil ?_
        refine N_block ?_
        refine N_then ?_
        refine G_region ?_
        refine W_run 2 [(4, .int .i64 (w64 (s5563.1 - y5575.Size))), (10, .slice p5539 x5537.length c5540), (11, .int .i64 (x5537.length : Int)), (12, .int .i64 (w64 (s5563.2 + 1)))] w5580 (by kernel_rfl) ?_
        refine W_nil ?_
        obtain rfl := Option.some.inj hm
        exact N_loop fun a ha => ⟨_, rfl, M5581.pick [] (by kernel_rfl), ha.sub (by kernel_rfl)⟩
      · refine G_cond_f (b := (decide (s5563.2 < (x5537.length : Int)))) hc5574 (by kernel_rfl) ?_
        refine G_exit ?_
        refine N_then_exit ?_
        refine N_then_exit ?_
        refine N_block_eq ?_
        obtain rfl := Option.some.inj hm
        obtain rfl := hout5565 _ rfl
        exact N_meet fun a ha => ⟨M5568.pick [] (by kernel_rfl), ha.sub (by kernel_rfl)⟩
    · intro a5582 w5583 ⟨M5584, hS5585⟩
      refine N_use hS5585 ?_
      have hm := hmo5572
      refine N_then ?_
      refine G_seq ?_
      refine G_region ?_
      refine W_run 3 [(2, .int .i64 out5570), (3, .bool true)] w5583 (by kernel_rfl) ?_
      refine W_nil ?_
      refine N_then ?_
      refine G_ret ?_
      obtain rfl := Option.some.inj hm
      refine N_ret [.int .i64 out5570, .bool true] (RVs_cons (RV_tmp (by kernel_rfl)) (RVs_cons (RV_tmp (by kernel_rfl)) RVs_nil)) ?_
      exact ⟨rfl, M5584.pick [] (by kernel_rfl)⟩
theorem c_s_DrawAddRegion (w : World) (x5764 : List Int) (p5766 : Option Addr) (c5767 : Nat) (h5768 : rdS encU8 w x5764 p5766 c5767) {r : (List Region) × Region} (hm : M.s_DrawAddRegion x5764 = some r) :
    Calls Try.prog 50 #[.slice p5766 x5764.length c5767] w fun e w' => ∃ (p5770 : Option Addr) (c5771 : Nat) (sg5772 : Seg), e = .returned (.tuple #[.slice p5770 r.1.length c5771, .agg #[.int .i64 r.2.Base, .int .i64 r.2.Size, .int .i64 r.2.Kind, .int .i64 r.2.Unit]]) ∧ ownS encRegion r.1 p5770 c5771 sg5772 ∧ Mem [] w w' [sg5772] := by
  unfold M.s_DrawAddRegion at hm
  refine C_enter Try.func50 rfl (by kernel_rfl) ?_
  have M0 := Mem.refl [] w
  refine G_seq ?_
  refine G_region ?_
  refine W_run 1 [(0, .slice p5766 x5764.length c5767)] w (by kernel_rfl) ?_
  refine W_new (fun b => .pointer (some ⟨b, 0, none⟩)) (.cells ⟨[.int .i64 0, .int .i64 0, .int .i64 0, .int .i64 0]⟩ 59 (0, 0)) M0 rfl (by kernel_rfl) (by kernel_rfl) ?_
  intro b5775 w5776 M5777
  refine W_nil ?_
  refine N_then ?_
  refine G_seq ?_
  refine G_region ?_
  refine W_run 2 [(3, .pointer (some ⟨b5775, 0, none⟩)), (7, .agg #[.slice p5766 x5764.length c5767, .int .i64 0, .int .u64 0])] w5776 (by kernel_rfl) ?_
  refine W_new (fun b => .pointer (some ⟨b, 0, none⟩)) (.cells ⟨[.slice p5766 x5764.length c5767, .int .i64 0, .int .u64 0]⟩ 89 (0, 0)) M5777 rfl (by kernel_rfl) (by kernel_rfl) ?_
  intro b5780 w5781 M5782
  refine W_run 1 [(3, .pointer (some ⟨b5775, 0, none⟩)), (4, .pointer (some ⟨b5780, 0, none⟩))] w5781 (by kernel_rfl) ?_
  refine W_nil ?_
  refine N_then ?_
  refine G_seq ?_
  refine G_region ?_
  refine W_run 1 [(3, .pointer (some ⟨b5775, 0, none⟩)), (4, .pointer (some ⟨b5780, 0, none⟩)), (9, .pointer (some ⟨b5780, 0, none⟩))] w5781 (by kernel_rfl) ?_
  obtain ⟨r5783, hr5783, hm⟩ := gx_bind hm
  refine W_call 77 #[.pointer (some ⟨b5780, 0, none⟩)] (by kernel_rfl) (by kernel_rfl) ?_
  refine (c_s_l1Cur_regions w5781 (⟨x5764, 0, 0⟩ : l1Cur) p5766 c5767 (h5768.mem0 M5782) b5780 (M5782.hasPick [1]) (M5782.nodupPick [1] (by kernel_rfl)) (apartX.old0 h5768 M5782 [1]) hr5783).mono ?_
  rintro e_ w5789 ⟨p5785, c5786, sg5787, rfl, ho5788, K5790⟩
  have M5791 := M5782.callF' [1] [0] (by kernel_rfl) K5790
  refine ⟨_, rfl, ?_⟩
  refine W_run 1 [(3, .pointer (some ⟨b5775, 0, none⟩)), (4, .pointer (some ⟨b5780, 0, none⟩)), (5, .slice p5785 r5783.1.length c5786)] w5789 (by kernel_rfl) ?_
  refine W_nil ?_
  refine N_then ?_
  refine G_seq ?_
  refine G_region ?_
  refine W_run 2 [(3, .pointer (some ⟨b5775, 0, none⟩)), (11, .slice p5785 r5783.1.length c5786), (12, .pointer (some ⟨b5780, 0, none⟩))] w5789 (by kernel_rfl) ?_
  obtain ⟨r5792, hr5792, hm⟩ := gx_bind hm
  refine W_call 82 #[.pointer (some ⟨b5780, 0, none⟩)] (by kernel_rfl) (by kernel_rfl) ?_
  refine (c_s_l1Cur_region w5789 (⟨x5764, r5783.2.1, r5783.2.2⟩ : l1Cur) p5766 c5767 (h5768.mem0 M5791) b5780 (M5791.hasPick [1]) (M5791.nodupPick [1] (by kernel_rfl)) (apartX.old0 h5768 M5791 [1]) hr5792).mono ?_
  rintro e_ w5793 ⟨rfl, K5794⟩
  have M5795 := M5791.callF' [1] [0, 2] (by kernel_rfl) K5794
  refine ⟨_, rfl, ?_⟩
  refine W_run 1 [(2, .slice p5785 r5783.1.length c5786), (3, .pointer (some ⟨b5775, 0, none⟩)), (13, .agg #[.int .i64 r5792.1.Base, .int .i64 r5792.1.Size, .int .i64 r5792.1.Kind, .int .i64 r5792.1.Unit])] w5793 (by kernel_rfl) ?_
  refine W_store _ _ _ true 4 b5775 0 [.int .i64 0, .int .i64 0, .int .i64 0, .int .i64 0] 59 (.agg #[.int .i64 r5792.1.Base, .int .i64 r5792.1.Size, .int .i64 r5792.1.Kind, .int .i64 r5792.1.Unit]) 0 [.int .i64 r5792.1.Base, .int .i64 r5792.1.Size, .int .i64 r5792.1.Kind, .int .i64 r5792.1.Unit] M5795 (by kernel_rfl) rfl (by kernel_rfl) (by kernel_rfl) (by kernel_rfl) (by kernel_rfl) (by kernel_rfl) (by kernel_rfl) (by kernel_rfl) (by kernel_rfl) ?_
  intro w5796 M5797
  refine W_nil ?_
  refine N_then ?_
  refine G_ret ?_
  obtain rfl := Option.some.inj hm
  refine N_ret [.slice p5785 r5783.1.length c5786, .agg #[.int .i64 r5792.1.Base, .int .i64 r5792.1.Size, .int .i64 r5792.1.Kind, .int .i64 r5792.1.Unit]] (RVs_cons (RV_tmp (by kernel_rfl)) (RVs_cons (RV_cell (g := true) (k := 4) (b := b5775) (off := 0) (cs := [.int .i64 r5792.1.Base, .int .i64 r5792.1.Size, .int .i64 r5792.1.Kind, .int .i64 r5792.1.Unit]) (e := 59) (fr := (0, 0)) (v := .agg #[.int .i64 r5792.1.Base, .int .i64 r5792.1.Size, .int .i64 r5792.1.Kind, .int .i64 r5792.1.Unit]) (M5797.blk 0 (b := b5775) (o := .cells ⟨[.int .i64 r5792.1.Base, .int .i64 r5792.1.Size, .int .i64 r5792.1.Kind, .int .i64 r5792.1.Unit]⟩ 59 (0, 0)) (by kernel_rfl)) (by kernel_rfl) (by kernel_rfl) (by kernel_rfl)) RVs_nil)) ?_
  exact ⟨p5785, c5786, sg5787, rfl, ho5788, M5797.pick [1] (by kernel_rfl)⟩
theorem c_l_rRegions (w : World) (x5832 : List Region) (p5834 : Option Addr) (c5835 : Nat) (h5836 : rdS encRegion w x5832 p5834 c5835) (x5837 : List Region) (p5839 : Option Addr) (c5840 : Nat) (h5841 : rdS encRegion w x5837 p5839 c5840) {r : Bool} (hm : M.l_rRegions x5832 x5837 = some r) :
    Calls Try.prog 51 #[.slice p5834 x5832.length c5835, .slice p5839 x5837.length c5840] w fun e w' => e = .returned (.bool r) ∧ Mem [] w w' [] := by
  unfold M.l_rRegions at hm
  refine C_enter Try.func51 rfl (by kernel_rfl) ?_
  have M0 := Mem.refl [] w
  refine G_seq ?_
  refine G_region ?_
  refine W_run 1 [(0, .slice p5834 x5832.length c5835), (1, .slice p5839 x5837.length c5840)] w (by kernel_rfl) ?_
  refine W_nil ?_
  refine N_then ?_
  refine G_seq ?_
  refine G_seq ?_
  refine G_region ?_
  refine W_run 5 [(0, .slice p5834 x5832.length c5835), (1, .slice p5839 x5837.length c5840), (10, .bool ((x5832.length : Int) != (x5837.length : Int)))] w (by kernel_rfl) ?_
  refine W_nil ?_
  refine N_then ?_
  rcases gx_bif hm with ⟨hc5842, hm⟩ | ⟨hc5842, hm⟩
  · refine G_cond_t (b := ((x5832.length : Int) != (x5837.length : Int))) hc5842 (by kernel_rfl) ?_
    refine G_seq ?_
    refine G_region ?_
    refine W_run 1 [(4, .bool false)] w (by kernel_rfl) ?_
    refine W_nil ?_
    refine N_then ?_
    refine G_ret ?_
    refine N_then_ret ?_
    obtain rfl := Option.some.inj hm
    refine N_ret [.bool false] (RVs_cons (RV_tmp (by kernel_rfl)) RVs_nil) ?_
    exact ⟨rfl, M0.pick [] (by kernel_rfl)⟩
  · refine G_cond_f (b := ((x5832.length : Int) != (x5837.length : Int))) hc5842 (by kernel_rfl) ?_
    refine G_skip ?_
    refine N_then ?_
    refine G_seq ?_
    refine G_seq ?_
    refine G_region ?_
    refine W_run 1 [(0, .slice p5834 x5832.length c5835), (1, .slice p5839 x5837.length c5840), (5, .int .i64 0)] w (by kernel_rfl) ?_
    refine W_nil ?_
    refine N_then ?_
    obtain ⟨out5862, hw5863, hmo5864⟩ := gx_bind hm
    refine G_meet (fun a w' => ∃ (o5865 : Unit), out5862 = .inl o5865 ∧ Mem [] w w' [] ∧ Sat Try.f51.ntmps [] a) ?_ ?_
    · refine G_block ?_
      refine G_while (σ := Int) (ρ := (Unit) ⊕ (Bool)) (fun s5855 a w' => Mem [] w w' [] ∧ Sat Try.f51.ntmps [(0, .slice p5834 x5832.length c5835), (1, .slice p5839 x5837.length c5840), (5, .int .i64 s5855)] a) hw5863 (fun a ha => ⟨M0.pick [] (by kernel_rfl), ha.sub (by kernel_rfl)⟩) ?_
      clear hm
      intro s5855 x5856 hm hout5857 a5858 w5859 ⟨M5860, hS5861⟩
      refine G_use hS5861 ?_
      refine G_seq ?_
      refine G_seq ?_
      refine G_region ?_
      refine W_run 4 [(0, .slice p5834 x5832.length c5835), (1, .slice p5839 x5837.length c5840), (5, .int .i64 s5855), (14, .bool (decide (s5855 < (x5832.length : Int))))] w5859 (by kernel_rfl) ?_
      refine W_nil ?_
      refine N_then ?_
      rcases gx_bif hm with ⟨hc5866, hm⟩ | ⟨hc5866, hm⟩
      · refine G_cond_t (b := (decide (s5855 < (x5832.length : Int)))) hc5866 (by kernel_rfl) ?_
        refine G_skip ?_
        refine N_then ?_
        refine G_seq ?_
        refine G_block ?_
        refine G_seq ?_
        refine G_quiet (by kernel_rfl) (by kernel_rfl) M5860 ?_
        refine Z_runs [.slice p5834 x5832.length c5835, .int .i64 s5855] [(0, .slice p5834 x5832.length c5835), (1, .slice p5839 x5837.length c5840), (5, .int .i64 s5855), (17, .slice p5834 x5832.length c5835), (18, .int .i64 s5855)] (fun w_ => by kernel_rfl) (by kernel_rfl) ?_
        obtain ⟨y5867, hy5867, hm⟩ := gx_bind hm
        refine Z_val (elemP p5834 (s5855.toNat * 4)) (by kernel_rfl) (fun w_ M_ => (E_index (E := encRegion) _ _ _ x5832.length c5835 .i64 s5855 4 (y := y5867) rfl (by kernel_rfl) (by kernel_rfl) (by kernel_rfl) (h5836.mem0 M_) rfl hy5867)) ?_
        refine Z_val (.agg #[.int .i64 y5867.Base, .int .i64 y5867.Size, .int .i64 y5867.Kind, .int .i64 y5867.Unit]) (by kernel_rfl) (fun w_ M_ => (E_loadE (E := encRegion) _ _ true 4 s5855 0 (s5855.toNat * 4) y5867 (.agg #[.int .i64 y5867.Base, .int .i64 y5867.Size, .int .i64 y5867.Kind, .int .i64 y5867.Unit]) rfl (by kernel_rfl) (by kernel_rfl) (by kernel_rfl) (h5836.mem0 M_) hy5867 rfl)) ?_
        refine Z_runs [.slice p5839 x5837.length c5840, .int .i64 s5855] [(0, .slice p5834 x5832.length c5835), (1, .slice p5839 x5837.length c5840), (5, .int .i64 s5855), (20, .agg #[.int .i64 y5867.Base, .int .i64 y5867.Size, .int .i64 y5867.Kind, .int .i64 y5867.Unit]), (21, .slice p5839 x5837.length c5840), (22, .int .i64 s5855)] (fun w_ => by kernel_rfl) (by kernel_rfl) ?_
        obtain ⟨y5868, hy5868, hm⟩ := gx_bind hm
        refine Z_val (elemP p5839 (s5855.toNat * 4)) (by kernel_rfl) (fun w_ M_ => (E_index (E := encRegion) _ _ _ x5837.length c5840 .i64 s5855 4 (y := y5868) rfl (by kernel_rfl) (by kernel_rfl) (by kernel_rfl) (h5841.mem0 M_) rfl hy5868)) ?_
        refine Z_val (.agg #[.int .i64 y5868.Base, .int .i64 y5868.Size, .int .i64 y5868.Kind, .int .i64 y5868.Unit]) (by kernel_rfl) (fun w_ M_ => (E_loadE (E := encRegion) _ _ true 4 s5855 0 (s5855.toNat * 4) y5868 (.agg #[.int .i64 y5868.Base, .int .i64 y5868.Size, .int .i64 y5868.Kind, .int .i64 y5868.Unit]) rfl (by kernel_rfl) (by kernel_rfl) (by kernel_rfl) (h5841.mem0 M_) hy5868 rfl)) ?_
        refine Z_val (.bool (!((y5867.Base == y5868.Base) && ((y5867.Size == y5868.Size) && ((y5867.Kind == y5868.Kind) && ((y5867.Unit == y5868.Unit) && true)))))) (by kernel_rfl) (fun w_ M_ => (E_neqAgg _ _ _ _ [.int .i64 y5867.Base, .int .i64 y5867.Size, .int .i64 y5867.Kind, .int .i64 y5867.Unit] [.int .i64 y5868.Base, .int .i64 y5868.Size, .int .i64 y5868.Kind, .int .i64 y5868.Unit] ((y5867.Base == y5868.Base) && ((y5867.Size == y5868.Size) && ((y5867.Kind == y5868.Kind) && ((y5867.Unit == y5868.Unit) && true)))) rfl (by kernel_rfl) (by kernel_rfl) (by kernel_rfl) (by kernel_rfl) (by kernel_rfl) (by kernel_rfl))) ?_
        refine Z_end fun w5869 M5870 => ?_
        refine N_then ?_
        rcases gx_bif hm with ⟨hc5871, hm⟩ | ⟨hc5871, hm⟩
        · refine G_cond_t (b := (!((y5867.Base == y5868.Base) && ((y5867.Size == y5868.Size) && ((y5867.Kind == y5868.Kind) && ((y5867.Unit == y5868.Unit) && true)))))) hc5871 (by kernel_rfl) ?_
          refine G_seq ?_
          refine G_region ?_
          refine W_run 1 [(4, .bool false)] w5869 (by kernel_rfl) ?_
          refine W_nil ?_
          refine N_then ?_
          refine G_ret ?_
          refine N_block_ret ?_
          refine N_then_ret ?_
          refine N_then_ret ?_
          obtain rfl := Option.some.inj hm
          obtain rfl := hout5857 _ rfl
          have hm := hmo5864; simp only [Sum.elim_inr] at hm
          refine N_block_ret ?_
          refine N_meet_ret ?_
          refine N_then_ret ?_
          obtain rfl := Option.some.inj hm
          refine N_ret [.bool false] (RVs_cons (RV_tmp (by kernel_rfl)) RVs_nil) ?_
          exact ⟨rfl, M5870.pick [] (by kernel_rfl)⟩
        · refine G_cond_f (b := (!((y5867.Base == y5868.Base) && ((y5867.Size == y5868.Size) && ((y5867.Kind == y5868.Kind) && ((y5867.Unit == y5868.Unit) && true)))))) hc5871 (by kernel_rfl) ?_
          refine G_skip ?_
          refine N_block ?_
          refine N_then ?_
          refine G_region ?_
          refine W_run 3 [(0, .slice p5834 x5832.length c5835), (1, .slice p5839 x5837.length c5840), (5, .int .i64 (w64 (s5855 + 1)))] w5869 (by kernel_rfl) ?_
          refine W_nil ?_
          obtain rfl := Option.some.inj hm
          exact N_loop fun a ha => ⟨_, rfl, M5870.pick [] (by kernel_rfl), ha.sub (by kernel_rfl)⟩
      · refine G_cond_f (b := (decide (s5855 < (x5832.length : Int)))) hc5866 (by kernel_rfl) ?_
        refine G_exit ?_
        refine N_then_exit ?_
        refine N_then_exit ?_
        refine N_block_eq ?_
        obtain rfl := Option.some.inj hm
        obtain rfl := hout5857 _ rfl
        exact N_meet fun a ha => ⟨_, rfl, M5860.pick [] (by kernel_rfl), ha.sub (by kernel_rfl)⟩
    · intro a5872 w5873 ⟨o5865, hout_, M5874, hS5875⟩
      refine N_use hS5875 ?_
      subst hout_
      have hm := hmo5864; simp only [Sum.elim_inl] at hm
      refine N_then ?_
      refine G_seq ?_
      refine G_region ?_
      refine W_run 1 [(4, .bool true)] w5873 (by kernel_rfl) ?_
      refine W_nil ?_
      refine N_then ?_
      refine G_ret ?_
      obtain rfl := Option.some.inj hm
      refine N_ret [.bool true] (RVs_cons (RV_tmp (by kernel_rfl)) RVs_nil) ?_
      exact ⟨rfl, M5874.pick [] (by kernel_rfl)⟩
theorem c_s_DrawMoveRegion (w : World) (x5905 : List Int) (p5907 : Option Addr) (c5908 : Nat) (h5909 : rdS encU8 w x5905 p5907 c5908) {r : (List Region) × Int × Int} (hm : M.s_DrawMoveRegion x5905 = some r) :
    Calls Try.prog 53 #[.slice p5907 x5905.length c5908] w fun e w' => ∃ (p5911 : Option Addr) (c5912 : Nat) (sg5913 : Seg), e = .returned (.tuple #[.slice p5911 r.1.length c5912, .int .i64 r.2.1, .int .i64 r.2.2]) ∧ ownS encRegion r.1 p5911 c5912 sg5913 ∧ Mem [] w w' [sg5913] := by
  unfold M.s_DrawMoveRegion at hm
  refine C_enter Try.func53 rfl (by kernel_rfl) ?_
  have M0 := Mem.refl [] w
  refine G_seq ?_
  refine G_region ?_
  refine W_run 3 [(0, .slice p5907 x5905.length c5908)] w (by kernel_rfl) ?_
  refine W_nil ?_
  refine N_then ?_
  refine G_seq ?_
  refine G_region ?_
  refine W_run 2 [(8, .agg #[.slice p5907 x5905.length c5908, .int .i64 0, .int .u64 0])] w (by kernel_rfl) ?_
  refine W_new (fun b => .pointer (some ⟨b, 0, none⟩)) (.cells ⟨[.slice p5907 x5905.length c5908, .int .i64 0, .int .u64 0]⟩ 89 (0, 0)) M0 rfl (by kernel_rfl) (by kernel_rfl) ?_
  intro b5917 w5918 M5919
  refine W_run 1 [(5, .pointer (some ⟨b5917, 0, none⟩))] w5918 (by kernel_rfl) ?_
  refine W_nil ?_
  refine N_then ?_
  refine G_seq ?_
  refine G_region ?_
  refine W_run 1 [(5, .pointer (some ⟨b5917, 0, none⟩)), (10, .pointer (some ⟨b5917, 0, none⟩))] w5918 (by kernel_rfl) ?_
  obtain ⟨r5920, hr5920, hm⟩ := gx_bind hm
  refine W_call 77 #[.pointer (some ⟨b5917, 0, none⟩)] (by kernel_rfl) (by kernel_rfl) ?_
  refine (c_s_l1Cur_regions w5918 (⟨x5905, 0, 0⟩ : l1Cur) p5907 c5908 (h5909.mem0 M5919) b5917 (M5919.hasPick [0]) (M5919.nodupPick [0] (by kernel_rfl)) (apartX.old0 h5909 M5919 [0]) hr5920).mono ?_
  rintro e_ w5926 ⟨p5922, c5923, sg5924, rfl, ho5925, K5927⟩
  have M5928 := M5919.callF' [0] [] (by kernel_rfl) K5927
  refine ⟨_, rfl, ?_⟩
  refine W_run 1 [(5, .pointer (some ⟨b5917, 0, none⟩)), (6, .slice p5922 r5920.1.length c5923)] w5926 (by kernel_rfl) ?_
  refine W_nil ?_
  refine N_then ?_
  refine G_seq ?_
  refine G_region ?_
  refine W_run 5 [(5, .pointer (some ⟨b5917, 0, none⟩)), (12, .slice p5922 r5920.1.length c5923), (13, .pointer (some ⟨b5917, 0, none⟩)), (16, .int .i64 (w64 ((r5920.1.length : Int) + 1)))] w5926 (by kernel_rfl) ?_
  obtain ⟨r5929, hr5929, hm⟩ := gx_bind hm
  refine W_call 81 #[.pointer (some ⟨b5917, 0, none⟩), .int .i64 (w64 ((r5920.1.length : Int) + 1))] (by kernel_rfl) (by kernel_rfl) ?_
  refine (c_s_l1Cur_pick w5926 (⟨x5905, r5920.2.1, r5920.2.2⟩ : l1Cur) p5907 c5908 (h5909.mem0 M5928) b5917 (w64 ((r5920.1.length : Int) + 1)) (M5928.hasPick [0]) (M5928.nodupPick [0] (by kernel_rfl)) (apartX.old0 h5909 M5928 [0]) hr5929).mono ?_
  rintro e_ w5930 ⟨rfl, K5931⟩
  have M5932 := M5928.callF' [0] [1] (by kernel_rfl) K5931
  refine ⟨_, rfl, ?_⟩
  refine W_run 1 [(5, .pointer (some ⟨b5917, 0, none⟩)), (12, .slice p5922 r5920.1.length c5923), (17, .int .i64 r5929.1), (18, .pointer (some ⟨b5917, 0, none⟩))] w5930 (by kernel_rfl) ?_
  obtain ⟨r5933, hr5933, hm⟩ := gx_bind hm
  refine W_call 81 #[.pointer (some ⟨b5917, 0, none⟩), .int .i64 20] (by kernel_rfl) (by kernel_rfl) ?_
  refine (c_s_l1Cur_pick w5930 (⟨x5905, r5929.2.1, r5929.2.2⟩ : l1Cur) p5907 c5908 (h5909.mem0 M5932) b5917 20 (M5932.hasPick [1]) (M5932.nodupPick [1] (by kernel_rfl)) (apartX.old0 h5909 M5932 [1]) hr5933).mono ?_
  rintro e_ w5934 ⟨rfl, K5935⟩
  have M5936 := M5932.callF' [1] [0] (by kernel_rfl) K5935
  refine ⟨_, rfl, ?_⟩
  refine W_run 3 [(12, .slice p5922 r5920.1.length c5923), (21, .int .i64 (w64 (r5929.1 - (w64 (r5933.1.tdiv 19))))), (22, .pointer (some ⟨b5917, 0, none⟩))] w5934 (by kernel_rfl) ?_
  refine W_lit (E := encI) [0, 4, 4096, 32768, 65532, 61440, (-4), 65536] 8 [.int .i64 0, .int .i64 4, .int .i64 4096, .int .i64 32768, .int .i64 65532, .int .i64 61440, .int .i64 (-4), .int .i64 65536] 3 M5936 (by kernel_rfl) (by kernel_rfl) (by kernel_rfl) (by kernel_rfl) (by kernel_rfl) ?_
  intro p5937 c5938 sg5939 w5940 ho5941 M5942
  obtain ⟨r5944, hr5944, hm⟩ := gx_bind hm
  refine W_call 80 #[.pointer (some ⟨b5917, 0, none⟩), .slice p5937 [0, 4, 4096, 32768, 65532, 61440, (-4), 65536].length c5938] (by kernel_rfl) (by kernel_rfl) ?_
  refine (c_s_l1Cur_among w5940 (⟨x5905, r5933.2.1, r5933.2.2⟩ : l1Cur) p5907 c5908 (h5909.mem0 M5942) b5917 [0, 4, 4096, 32768, 65532, 61440, (-4), 65536] p5937 c5938 (ho5941.rd M5942 2 (by kernel_rfl)) (M5942.hasPick [1]) (M5942.nodupPick [1] (by kernel_rfl)) (apartX.old0 h5909 M5942 [1]) (apartX.own ho5941 M5942 2 (by kernel_rfl) [1] (by kernel_rfl)) hr5944).mono ?_
  rintro e_ w5945 ⟨rfl, K5946⟩
  have M5947 := M5942.callF' [1] [0, 2] (by kernel_rfl) K5946
  refine ⟨_, rfl, ?_⟩
  refine W_run 3 [(2, .slice p5922 r5920.1.length c5923), (3, .int .i64 (w64 (r5929.1 - (w64 (r5933.1.tdiv 19))))), (4, .int .i64 r5944.1)] w5945 (by kernel_rfl) ?_
  refine W_nil ?_
  refine N_then ?_
  refine G_ret ?_
  obtain rfl := Option.some.inj hm
  refine N_ret [.slice p5922 r5920.1.length c5923, .int .i64 (w64 (r5929.1 - (w64 (r5933.1.tdiv 19)))), .int .i64 r5944.1] (RVs_cons (RV_tmp (by kernel_rfl)) (RVs_cons (RV_tmp (by kernel_rfl)) (RVs_cons (RV_tmp (by kernel_rfl)) RVs_nil))) ?_
  exact ⟨p5922, c5923, sg5924, rfl, ho5925, M5947.pick [0] (by kernel_rfl)⟩
theorem c_i_MoveRegion (w : World) (x5957 : List Region) (p5959 : Option Addr) (c5960 : Nat) (h5961 : rdS encRegion w x5957 p5959 c5960) (x5962 : Int) (x5963 : Int) {r : (List Region) × Bool} (hm : M.i_MoveRegion x5957 x5962 x5963 = some r) :
    Calls Try.prog 39 #[.slice p5959 x5957.length c5960, .int .i64 x5962, .int .i64 x5963] w fun e w' => ∃ (p5965 : Option Addr) (c5966 : Nat) (sg5967 : Seg), e = .returned (.tuple #[.slice p5965 r.1.length c5966, .bool r.2]) ∧ ownS encRegion r.1 p5965 c5966 sg5967 ∧ Mem [] w w' [sg5967] := by
  unfold M.i_MoveRegion at hm
  refine C_enter Try.func39 rfl (by kernel_rfl) ?_
  have M0 := Mem.refl [] w
  refine G_seq ?_
  refine G_region ?_
  refine W_run 2 [(0, .slice p5959 x5957.length c5960), (1, .int .i64 x5962), (2, .int .i64 x5963)] w (by kernel_rfl) ?_
  refine W_nil ?_
  refine N_then ?_
  refine G_seq ?_
  refine G_seq ?_
  obtain ⟨o5978, ho5979, hm5980⟩ := gx_bind hm
  refine G_meet (fun a w' => Mem [] w w' [] ∧ Sat Try.f39.ntmps [(0, .slice p5959 x5957.length c5960), (1, .int .i64 x5962), (2, .int .i64 x5963), (19, .bool o5978)] a) ?_ ?_
  · have hm := ho5979
    refine G_region ?_
    refine W_run 1 [(0, .slice p5959 x5957.length c5960), (1, .int .i64 x5962), (2, .int .i64 x5963), (9, .slice p5959 x5957.length c5960)] w (by kernel_rfl) ?_
    obtain ⟨r5981, hr5981, hm⟩ := gx_bind hm
    refine W_call 49 #[.slice p5959 x5957.length c5960] (by kernel_rfl) (by kernel_rfl) ?_
    refine (c_i_IsMap w x5957 p5959 c5960 (h5961.mem0 M0) hr5981).mono ?_
    rintro e_ w5982 ⟨rfl, K5983⟩
    have M5984 := M0.call0 K5983
    refine ⟨_, rfl, ?_⟩
    refine W_run 2 [(0, .slice p5959 x5957.length c5960), (1, .int .i64 x5962), (2, .int .i64 x5963), (12, .bool (!r5981))] w5982 (by kernel_rfl) ?_
    rcases gx_bif hm with ⟨hc5985, hm⟩ | ⟨hc5985, hm⟩
    · refine W_known 12 true (by kernel_rfl) hc5985 ?_
      refine W_run 7 [(0, .slice p5959 x5957.length c5960), (1, .int .i64 x5962), (2, .int .i64 x5963), (19, .bool true)] w5982 (by kernel_rfl) ?_
      refine W_nil ?_
      obtain rfl := Option.some.inj hm
      exact N_meet fun a ha => ⟨M5984.pick [] (by kernel_rfl), ha.sub (by kernel_rfl)⟩
    · refine W_known 12 false (by kernel_rfl) hc5985 ?_
      refine W_run 4 [(0, .slice p5959 x5957.length c5960), (1, .int .i64 x5962), (2, .int .i64 x5963), (12, .bool false), (13, .int .i64 x5962), (16, .int .i64 (w64 ((x5957.length : Int) - 1)))] w5982 (by kernel_rfl) ?_
      obtain ⟨r5986, hr5986, hm⟩ := gx_bind hm
      refine W_call 58 #[.int .i64 x5962, .int .i64 0, .int .i64 (w64 ((x5957.length : Int) - 1))] (by kernel_rfl) (by kernel_rfl) ?_
      refine (c_i_inside w5982 x5962 0 (w64 ((x5957.length : Int) - 1)) hr5986).mono ?_
      rintro e_ w5987 ⟨rfl, K5988⟩
      have M5989 := M5984.call0 K5988
      refine ⟨_, rfl, ?_⟩
      refine W_run 2 [(0, .slice p5959 x5957.length c5960), (1, .int .i64 x5962), (2, .int .i64 x5963), (19, .bool (!r5986))] w5987 (by kernel_rfl) ?_
      refine W_nil ?_
      obtain rfl := Option.some.inj hm
      exact N_meet fun a ha => ⟨M5989.pick [] (by kernel_rfl), ha.sub (by kernel_rfl)⟩
  · intro a5992 w5990 ⟨M5991, hS5993⟩
    refine N_use hS5993 ?_
    have hm := hm5980
    refine N_then ?_
    rcases gx_bif hm with ⟨hc5994, hm⟩ | ⟨hc5994, hm⟩
    · refine G_cond_t (b := o5978) hc5994 (by kernel_rfl) ?_
      refine G_seq ?_
      refine G_region ?_
      refine W_run 2 [(6, .slice none 0 0), (7, .bool false)] w5990 (by kernel_rfl) ?_
      refine W_nil ?_
      refine N_then ?_
      refine G_ret ?_
      refine N_then_ret ?_
      obtain rfl := Option.some.inj hm
      refine N_ret [.slice none 0 0, .bool false] (RVs_cons (RV_tmp (by kernel_rfl)) (RVs_cons (RV_tmp (by kernel_rfl)) RVs_nil)) ?_
      exact ⟨none, 0, [], rfl, ownS_nil, M5991.pick [100000] (by kernel_rfl)⟩
    · refine G_cond_f (b := o5978) hc5994 (by kernel_rfl) ?_
      refine G_skip ?_
      refine N_then ?_
      refine G_seq ?_
      refine G_region ?_
      refine W_run 1 [(1, .int .i64 x5962), (2, .int .i64 x5963), (20, .slice p5959 x5957.length c5960)] w5990 (by kernel_rfl) ?_
      obtain ⟨r5996, hr5996, hm⟩ := gx_bind hm
      refine W_call 75 #[.slice p5959 x5957.length c5960] (by kernel_rfl) (by kernel_rfl) ?_
      refine (c_slices_Clone_75 w5990 x5957 p5959 c5960 (h5961.mem0 M5991) hr5996).mono ?_
      rintro e_ w6002 ⟨p5998, c5999, sg6000, rfl, ho6001, K6003⟩
      have M6004 := M5991.call K6003
      refine ⟨_, rfl, ?_⟩
      refine W_run 1 [(1, .int .i64 x5962), (2, .int .i64 x5963), (8, .slice p5998 r5996.length c5999)] w6002 (by kernel_rfl) ?_
      refine W_nil ?_
      refine N_then ?_
      refine G_seq ?_
      refine G_region ?_
      refine W_run 3 [(8, .slice p5998 r5996.length c5999), (22, .slice p5998 r5996.length c5999), (23, .int .i64 x5962), (24, .int .i64 x5963)] w6002 (by kernel_rfl) ?_
      obtain ⟨y6005, hy6005, hm⟩ := gx_bind hm
      refine W_val (elemP p5998 (x5962.toNat * 4)) w6002 (by kernel_rfl) (E_index (E := encRegion) _ _ _ r5996.length c5999 .i64 x5962 4 (y := y6005) rfl (by kernel_rfl) (by kernel_rfl) (by kernel_rfl) (ho6001.rd M6004 0 (by kernel_rfl)) rfl hy6005) ?_
      refine W_val (elemP p5998 (x5962.toNat * 4 + 0)) w6002 (by kernel_rfl) (E_fieldE (E := encRegion) _ _ 0 (x5962.toNat * 4) 0 rfl (by kernel_rfl) (by kernel_rfl) (ho6001.rd M6004 0 (by kernel_rfl)) hy6005) ?_
      refine W_storeE (E := encRegion) _ _ _ false 1 x5962.toNat 0 (x5962.toNat * 4 + 0) y6005 (⟨x5963, y6005.Size, y6005.Kind, y6005.Unit⟩ : Region) (.int .i64 x5963) 0 M6004 ho6001 (by kernel_rfl) (by kernel_rfl) rfl (by kernel_rfl) (by kernel_rfl) (by kernel_rfl) (by kernel_rfl) (by kernel_rfl) (by kernel_rfl) (by kernel_rfl) (gxIdx_spec hy6005).2 rfl ?_
      intro w6006 sg6008 ho6009 M6007
      refine W_conv 8 (.slice p5998 r5996.length c5999) (.slice p5998 (r5996.set x5962.toNat (⟨x5963, y6005.Size, y6005.Kind, y6005.Unit⟩ : Region)).length c5999) (by kernel_rfl) (by rw [@List.length_set _ r5996 x5962.toNat (⟨x5963, y6005.Size, y6005.Kind, y6005.Unit⟩ : Region)]) ?_
      refine W_conv 22 (.slice p5998 r5996.length c5999) (.slice p5998 (r5996.set x5962.toNat (⟨x5963, y6005.Size, y6005.Kind, y6005.Unit⟩ : Region)).length c5999) (by kernel_rfl) (by rw [@List.length_set _ r5996 x5962.toNat (⟨x5963, y6005.Size, y6005.Kind, y6005.Unit⟩ : Region)]) ?_
      refine W_nil ?_
      refine N_then ?_
      refine G_seq ?_
      refine G_region ?_
      refine W_run 1 [(27, .slice p5998 (r5996.set x5962.toNat (⟨x5963, y6005.Size, y6005.Kind, y6005.Unit⟩ : Region)).length c5999)] w6006 (by kernel_rfl) ?_
      obtain ⟨r6010, hr6010, hm⟩ := gx_bind hm
      refine W_call 74 #[.slice p5998 (r5996.set x5962.toNat (⟨x5963, y6005.Size, y6005.Kind, y6005.Unit⟩ : Region)).length c5999] (by kernel_rfl) (by kernel_rfl) ?_
      refine (c_i_asMap w6006 (r5996.set x5962.toNat (⟨x5963, y6005.Size, y6005.Kind, y6005.Unit⟩ : Region)) p5998 c5999 (ho6009.rd M6007 0 (by kernel_rfl)) hr6010).mono ?_
      rintro e_ w6016 ⟨p6012, c6013, sg6014, rfl, ho6015, K6017⟩
      have M6018 := M6007.call K6017
      refine ⟨_, rfl, ?_⟩
      refine W_run 4 [(6, .slice p6012 r6010.1.length c6013), (7, .bool r6010.2)] w6016 (by kernel_rfl) ?_
      refine W_nil ?_
      refine N_then ?_
      refine G_ret ?_
      obtain rfl := Option.some.inj hm
      refine N_ret [.slice p6012 r6010.1.length c6013, .bool r6010.2] (RVs_cons (RV_tmp (by kernel_rfl)) (RVs_cons (RV_tmp (by kernel_rfl)) RVs_nil)) ?_
      exact ⟨p6012, c6013, sg6014, rfl, ho6015, M6018.pick [1] (by kernel_rfl)⟩
theorem c_s_MoveRegion (w : World) (x6028 : List Region) (p6030 : Option Addr) (c6031 : Nat) (h6032 : rdS encRegion w x6028 p6030 c6031) (x6033 : Int) (x6034 : Int) {r : (List Region) × Bool} (hm : M.s_MoveRegion x6028 x6033 x6034 = some r) :
    Calls Try.prog 38 #[.slice p6030 x6028.length c6031, .int .i64 x6033, .int .i64 x6034] w fun e w' => ∃ (p6036 : Option Addr) (c6037 : Nat) (sg6038 : Seg), e = .returned (.tuple #[.slice p6036 r.1.length c6037, .bool r.2]) ∧ ownS encRegion r.1 p6036 c6037 sg6038 ∧ Mem [] w w' [sg6038] := by
  unfold M.s_MoveRegion at hm
  refine C_enter Try.func38 rfl (by kernel_rfl) ?_
  have M0 := Mem.refl [] w
  refine G_seq ?_
  refine G_region ?_
  refine W_run 2 [(0, .slice p6030 x6028.length c6031), (1, .int .i64 x6033), (2, .int .i64 x6034)] w (by kernel_rfl) ?_
  refine W_nil ?_
  refine N_then ?_
  refine G_seq ?_
  refine G_seq ?_
  obtain ⟨o6049, ho6050, hm6051⟩ := gx_bind hm
  refine G_meet (fun a w' => Mem [] w w' [] ∧ Sat Try.f38.ntmps [(0, .slice p6030 x6028.length c6031), (1, .int .i64 x6033), (2, .int .i64 x6034), (20, .bool o6049)] a) ?_ ?_
  · have hm := ho6050
    refine G_region ?_
    refine W_run 1 [(0, .slice p6030 x6028.length c6031), (1, .int .i64 x6033), (2, .int .i64 x6034), (10, .slice p6030 x6028.length c6031)] w (by kernel_rfl) ?_
    obtain ⟨r6052, hr6052, hm⟩ := gx_bind hm
    refine W_call 60 #[.slice p6030 x6028.length c6031] (by kernel_rfl) (by kernel_rfl) ?_
    refine (c_s_l17Good w x6028 p6030 c6031 (h6032.mem0 M0) hr6052).mono ?_
    rintro e_ w6053 ⟨rfl, K6054⟩
    have M6055 := M0.call0 K6054
    refine ⟨_, rfl, ?_⟩
    refine W_run 2 [(0, .slice p6030 x6028.length c6031), (1, .int .i64 x6033), (2, .int .i64 x6034), (13, .bool (!r6052))] w6053 (by kernel_rfl) ?_
    rcases gx_bif hm with ⟨hc6056, hm⟩ | ⟨hc6056, hm⟩
    · refine W_known 13 true (by kernel_rfl) hc6056 ?_
      refine W_run 7 [(0, .slice p6030 x6028.length c6031), (1, .int .i64 x6033), (2, .int .i64 x6034), (20, .bool true)] w6053 (by kernel_rfl) ?_
      refine W_nil ?_
      obtain rfl := Option.some.inj hm
      exact N_meet fun a ha => ⟨M6055.pick [] (by kernel_rfl), ha.sub (by kernel_rfl)⟩
    · refine W_known 13 false (by kernel_rfl) hc6056 ?_
      refine W_run 4 [(0, .slice p6030 x6028.length c6031), (1, .int .i64 x6033), (2, .int .i64 x6034), (13, .bool false), (14, .int .i64 x6033), (17, .int .i64 (w64 ((x6028.length : Int) - 1)))] w6053 (by kernel_rfl) ?_
      obtain ⟨r6057, hr6057, hm⟩ := gx_bind hm
      refine W_call 76 #[.int .i64 x6033, .int .i64 0, .int .i64 (w64 ((x6028.length : Int) - 1))] (by kernel_rfl) (by kernel_rfl) ?_
      refine (c_s_l1In w6053 x6033 0 (w64 ((x6028.length : Int) - 1)) hr6057).mono ?_
      rintro e_ w6058 ⟨rfl, K6059⟩
      have M6060 := M6055.call0 K6059
      refine ⟨_, rfl, ?_⟩
      refine W_run 2 [(0, .slice p6030 x6028.length c6031), (1, .int .i64 x6033), (2, .int .i64 x6034), (20, .bool (!r6057))] w6058 (by kernel_rfl) ?_
      refine W_nil ?_
      obtain rfl := Option.some.inj hm
      exact N_meet fun a ha => ⟨M6060.pick [] (by kernel_rfl), ha.sub (by kernel_rfl)⟩
  · intro a6063 w6061 ⟨M6062, hS6064⟩
    refine N_use hS6064 ?_
    have hm := hm6051
    refine N_then ?_
    rcases gx_bif hm with ⟨hc6065, hm⟩ | ⟨hc6065, hm⟩
    · refine G_cond_t (b := o6049) hc6065 (by kernel_rfl) ?_
      refine G_seq ?_
      refine G_region ?_
      refine W_lit (E := encRegion) ([] : List Region) 0 [] 59 M6062 (by kernel_rfl) (by kernel_rfl) (by kernel_rfl) (by kernel_rfl) (by kernel_rfl) ?_
      intro p6066 c6067 sg6068 w6069 ho6070 M6071
      refine W_run 2 [(6, .slice p6066 ([] : List Region).length c6067), (7, .bool false)] w6069 (by kernel_rfl) ?_
      refine W_nil ?_
      refine N_then ?_
      refine G_ret ?_
      refine N_then_ret ?_
      obtain rfl := Option.some.inj hm
      refine N_ret [.slice p6066 ([] : List Region).length c6067, .bool false] (RVs_cons (RV_tmp (by kernel_rfl)) (RVs_cons (RV_tmp (by kernel_rfl)) RVs_nil)) ?_
      exact ⟨p6066, c6067, sg6068, rfl, ho6070, M6071.pick [0] (by kernel_rfl)⟩
    · refine G_cond_f (b := o6049) hc6065 (by kernel_rfl) ?_
      refine G_skip ?_
      refine N_then ?_
      refine G_seq ?_
      refine G_region ?_
      refine W_run 2 [(0, .slice p6030 x6028.length c6031), (1, .int .i64 x6033), (2, .int .i64 x6034), (22, .slice p6030 x6028.length c6031), (23, .int .i64 x6033)] w6061 (by kernel_rfl) ?_
      obtain ⟨y6073, hy6073, hm⟩ := gx_bind hm
      refine W_val (elemP p6030 (x6033.toNat * 4)) w6061 (by kernel_rfl) (E_index (E := encRegion) _ _ _ x6028.length c6031 .i64 x6033 4 (y := y6073) rfl (by kernel_rfl) (by kernel_rfl) (by kernel_rfl) (h6032.mem0 M6062) rfl hy6073) ?_
      refine W_val (.agg #[.int .i64 y6073.Base, .int .i64 y6073.Size, .int .i64 y6073.Kind, .int .i64 y6073.Unit]) w6061 (by kernel_rfl) (E_loadE (E := encRegion) _ _ true 4 x6033 0 (x6033.toNat * 4) y6073 (.agg #[.int .i64 y6073.Base, .int .i64 y6073.Size, .int .i64 y6073.Kind, .int .i64 y6073.Unit]) rfl (by kernel_rfl) (by kernel_rfl) (by kernel_rfl) (h6032.mem0 M6062) hy6073 rfl) ?_
      refine W_new (fun b => .pointer (some ⟨b, 0, none⟩)) (.cells ⟨[.int .i64 0, .int .i64 0, .int .i64 0, .int .i64 0]⟩ 59 (0, 0)) M6062 rfl (by kernel_rfl) (by kernel_rfl) ?_
      intro b6075 w6076 M6077
      refine W_store _ _ _ true 4 b6075 0 [.int .i64 0, .int .i64 0, .int .i64 0, .int .i64 0] 59 (.agg #[.int .i64 y6073.Base, .int .i64 y6073.Size, .int .i64 y6073.Kind, .int .i64 y6073.Unit]) 0 [.int .i64 y6073.Base, .int .i64 y6073.Size, .int .i64 y6073.Kind, .int .i64 y6073.Unit] M6077 (by kernel_rfl) rfl (by kernel_rfl) (by kernel_rfl) (by kernel_rfl) (by kernel_rfl) (by kernel_rfl) (by kernel_rfl) (by kernel_rfl) (by kernel_rfl) ?_
      intro w6078 M6079
      refine W_nil ?_
      refine N_then ?_
      refine G_seq ?_
      refine G_region ?_
      refine W_run 2 [(0, .slice p6030 x6028.length c6031), (1, .int .i64 x6033), (8, .pointer (some ⟨b6075, 0, none⟩)), (26, .int .i64 x6034), (27, .pointer (some ⟨b6075, 0, none⟩))] w6078 (by kernel_rfl) ?_
      refine W_store _ _ _ false 1 b6075 0 [.int .i64 y6073.Base, .int .i64 y6073.Size, .int .i64 y6073.Kind, .int .i64 y6073.Unit] 59 (.int .i64 x6034) 0 [.int .i64 x6034, .int .i64 y6073.Size, .int .i64 y6073.Kind, .int .i64 y6073.Unit] M6079 (by kernel_rfl) rfl (by kernel_rfl) (by kernel_rfl) (by kernel_rfl) (by kernel_rfl) (by kernel_rfl) (by kernel_rfl) (by kernel_rfl) (by kernel_rfl) ?_
      intro w6080 M6081
      refine W_nil ?_
      refine N_then ?_
      refine G_seq ?_
      obtain ⟨ys6089, hys6089, hm⟩ := gx_bind hm
      obtain ⟨ap6091, hap6091, hm⟩ := gx_bind hm
      obtain ⟨ys6097, hys6097, hm⟩ := gx_bind hm
      obtain ⟨ap6099, hap6099, hm⟩ := gx_bind hm
      refine G_sub [(0, .slice p6030 x6028.length c6031), (1, .int .i64 x6033), (8, .pointer (some ⟨b6075, 0, none⟩)), (26, .int .i64 x6034), (27, .pointer (some ⟨b6075, 0, none⟩))] (by kernel_rfl) ?_
      refine G_dagL 11 [[], [], [], [1, 2], [0, 3], [], [], [6], [5, 7], [4, 8], []] [[], [], [], [], [0], [], [], [], [], [4], []] [[], [], [], [], [], [], [], [], [], [], []] [[], [], [], [], [], [], [], [], [], [], []] [[], [], [], [], [], [], [], [], [], [], []] [[], [], [], [], [], [], [], [], [], [], []] (fun _ => []) (fun i => ([fun f v s => ∃ (p6085 : Option Addr) (c6086 : Nat), v = (.slice p6085 ([] : List Region).length c6086 : Value) ∧ ownS encRegion ([] : List Region) p6085 c6086 s, fun f v s => v = (.slice p6030 x6028.length c6031 : Value) ∧ s = [], fun f v s => v = (.int .i64 x6033 : Value) ∧ s = [], fun f v s => v = (.slice (subP p6030 (0 : Int).toNat c6031 4) ys6089.length (c6031 - (0 : Int).toNat) : Value) ∧ s = [], fun f v s => ∃ (p6093 : Option Addr) (c6094 : Nat), v = (.slice p6093 ap6091.length c6094 : Value) ∧ ownS encRegion ap6091 p6093 c6094 s, fun f v s => v = (.slice p6030 x6028.length c6031 : Value) ∧ s = [], fun f v s => v = (.int .i64 x6033 : Value) ∧ s = [], fun f v s => v = (.int .i64 (w64 (x6033 + 1)) : Value) ∧ s = [], fun f v s => v = (.slice (subP p6030 (w64 (x6033 + 1)).toNat c6031 4) ys6097.length (c6031 - (w64 (x6033 + 1)).toNat) : Value) ∧ s = [], fun f v s => ∃ (p6101 : Option Addr) (c6102 : Nat), v = (.slice p6101 ap6099.length c6102 : Value) ∧ ownS encRegion ap6099 p6101 c6102 s, fun f v s => v = (.agg #[.int .i64 x6034, .int .i64 y6073.Size, .int .i64 y6073.Kind, .int .i64 y6073.Unit] : Value) ∧ s = []] : List ((Nat → Value) → Value → Seg → Prop)).getD i (fun _ _ _ => False)) (fun j f v => ∃ s, (fun i => ([fun f v s => ∃ (p6085 : Option Addr) (c6086 : Nat), v = (.slice p6085 ([] : List Region).length c6086 : Value) ∧ ownS encRegion ([] : List Region) p6085 c6086 s, fun f v s => v = (.slice p6030 x6028.length c6031 : Value) ∧ s = [], fun f v s => v = (.int .i64 x6033 : Value) ∧ s = [], fun f v s => v = (.slice (subP p6030 (0 : Int).toNat c6031 4) ys6089.length (c6031 - (0 : Int).toNat) : Value) ∧ s = [], fun f v s => ∃ (p6093 : Option Addr) (c6094 : Nat), v = (.slice p6093 ap6091.length c6094 : Value) ∧ ownS encRegion ap6091 p6093 c6094 s, fun f v s => v = (.slice p6030 x6028.length c6031 : Value) ∧ s = [], fun f v s => v = (.int .i64 x6033 : Value) ∧ s = [], fun f v s => v = (.int .i64 (w64 (x6033 + 1)) : Value) ∧ s = [], fun f v s => v = (.slice (subP p6030 (w64 (x6033 + 1)).toNat c6031 4) ys6097.length (c6031 - (w64 (x6033 + 1)).toNat) : Value) ∧ s = [], fun f v s => ∃ (p6101 : Option Addr) (c6102 : Nat), v = (.slice p6101 ap6099.length c6102 : Value) ∧ ownS encRegion ap6099 p6101 c6102 s, fun f v s => v = (.agg #[.int .i64 x6034, .int .i64 y6073.Size, .int .i64 y6073.Kind, .int .i64 y6073.Unit] : Value) ∧ s = []] : List ((Nat → Value) → Value → Seg → Prop)).getD i (fun _ _ _ => False)) j f v s) [] [9, 10] [9] (fun _ _ _ s h => ⟨s, h⟩) (by kernel_rfl) (by kernel_rfl) (M6081.preNil 11) (by kernel_rfl) (by kernel_rfl) (by kernel_rfl) (by kernel_rfl) (allOb_cons ?_ (allOb_cons ?_ (allOb_cons ?_ (allOb_cons ?_ (allOb_cons ?_ (allOb_cons ?_ (allOb_cons ?_ (allOb_cons ?_ (allOb_cons ?_ (allOb_cons ?_ (allOb_cons ?_ allOb_nil))))))))))) ?_
      · intro g6082 f6083
        intro R w6105 M6106
        refine W_lit (E := encRegion) ([] : List Region) 0 [] 59 M6106 (by kernel_rfl) (by kernel_rfl) (by kernel_rfl) (by kernel_rfl) (by kernel_rfl) ?_
        intro p6085 c6086 sg6087 w6107 ho6088 M6108
        exact W_nil (ob_end (.slice p6085 ([] : List Region).length c6086) sg6087 rfl (by kernel_rfl) ⟨p6085, c6086, rfl, ho6088⟩ (Mem.mid M6108))
      · intro g6082 f6083
        intro R w6109 M6110
        refine W_run 1 [(29, .slice p6030 x6028.length c6031)] w6109 (by kernel_rfl) ?_
        exact W_nil (ob_end (.slice p6030 x6028.length c6031) [] rfl (by kernel_rfl) ⟨by kernel_rfl, rfl⟩ M6110)
      · intro g6082 f6083
        intro R w6113 M6114
        refine W_run 1 [(30, .int .i64 x6033)] w6113 (by kernel_rfl) ?_
        exact W_nil (ob_end (.int .i64 x6033) [] rfl (by kernel_rfl) ⟨by kernel_rfl, rfl⟩ M6114)
      · intro g6082 f6083
        intro v1_ hb1_
        obtain ⟨rfl, _⟩ := hb1_
        intro v2_ hb2_
        obtain ⟨rfl, _⟩ := hb2_
        intro R w6117 M6118
        refine W_val (.slice (subP p6030 (0 : Int).toNat c6031 4) ys6089.length (c6031 - (0 : Int).toNat)) w6117 (by kernel_rfl) (E_slice (E := encRegion) _ _ _ _ x6028.length 0 x6033 rfl (by kernel_rfl) (Or.inl ⟨rfl, rfl⟩) (Or.inr ⟨_, rfl, by kernel_rfl⟩) (by kernel_rfl) (h6032.mem0 M6118) rfl hys6089) ?_
        exact W_nil (ob_end (.slice (subP p6030 (0 : Int).toNat c6031 4) ys6089.length (c6031 - (0 : Int).toNat)) [] rfl (by kernel_rfl) ⟨by kernel_rfl, rfl⟩ M6118)
      · intro g6082 f6083
        intro v0_ hb0_
        obtain ⟨p6085, c6086, rfl, ho6088⟩ := hb0_
        intro v3_ hb3_
        obtain ⟨rfl, _⟩ := hb3_
        intro R w6121 M6122
        refine W_append (E := encRegion) _ _ _ 32 [.int .i64 0, .int .i64 0, .int .i64 0, .int .i64 0] 2 (c6031 - (0 : Int).toNat) M6122 ho6088 (by kernel_rfl) (by kernel_rfl) (by kernel_rfl) rfl (by kernel_rfl) (by kernel_rfl) (by kernel_rfl) (by kernel_rfl) (by kernel_rfl) (by kernel_rfl) ((h6032.mem0 M6122).sliceM hys6089) hap6091 ?_
        intro p6093 c6094 sg6095 w6123 ho6096 M6124
        exact W_nil (ob_end (.slice p6093 ap6091.length c6094) sg6095 rfl (by kernel_rfl) ⟨p6093, c6094, rfl, ho6096⟩ (Mem.takeOver M6124))
      · intro g6082 f6083
        intro R w6125 M6126
        refine W_run 1 [(33, .slice p6030 x6028.length c6031)] w6125 (by kernel_rfl) ?_
        exact W_nil (ob_end (.slice p6030 x6028.length c6031) [] rfl (by kernel_rfl) ⟨by kernel_rfl, rfl⟩ M6126)
      · intro g6082 f6083
        intro R w6129 M6130
        refine W_run 1 [(34, .int .i64 x6033)] w6129 (by kernel_rfl) ?_
        exact W_nil (ob_end (.int .i64 x6033) [] rfl (by kernel_rfl) ⟨by kernel_rfl, rfl⟩ M6130)
      · intro g6082 f6083
        intro v6_ hb6_
        obtain ⟨rfl, _⟩ := hb6_
        intro R w6133 M6134
        refine W_run 1 [(35, .int .i64 (w64 (x6033 + 1)))] w6133 (by kernel_rfl) ?_
        exact W_nil (ob_end (.int .i64 (w64 (x6033 + 1))) [] rfl (by kernel_rfl) ⟨by kernel_rfl, rfl⟩ M6134)
      · intro g6082 f6083
        intro v5_ hb5_
        obtain ⟨rfl, _⟩ := hb5_
        intro v7_ hb7_
        obtain ⟨rfl, _⟩ := hb7_
        intro R w6137 M6138
        refine W_val (.slice (subP p6030 (w64 (x6033 + 1)).toNat c6031 4) ys6097.length (c6031 - (w64 (x6033 + 1)).toNat)) w6137 (by kernel_rfl) (E_slice (E := encRegion) _ _ _ _ x6028.length (w64 (x6033 + 1)) (x6028.length : Int) rfl (by kernel_rfl) (Or.inr ⟨_, rfl, by kernel_rfl⟩) (Or.inl ⟨rfl, rfl⟩) (by kernel_rfl) (h6032.mem0 M6138) rfl hys6097) ?_
        exact W_nil (ob_end (.slice (subP p6030 (w64 (x6033 + 1)).toNat c6031 4) ys6097.length (c6031 - (w64 (x6033 + 1)).toNat)) [] rfl (by kernel_rfl) ⟨by kernel_rfl, rfl⟩ M6138)
      · intro g6082 f6083
        intro v4_ hb4_
        obtain ⟨p6093, c6094, rfl, ho6096⟩ := hb4_
        intro v8_ hb8_
        obtain ⟨rfl, _⟩ := hb8_
        intro R w6141 M6142
        refine W_append (E := encRegion) _ _ _ 32 [.int .i64 0, .int .i64 0, .int .i64 0, .int .i64 0] 2 (c6031 - (w64 (x6033 + 1)).toNat) M6142 ho6096 (by kernel_rfl) (by kernel_rfl) (by kernel_rfl) rfl (by kernel_rfl) (by kernel_rfl) (by kernel_rfl) (by kernel_rfl) (by kernel_rfl) (by kernel_rfl) ((h6032.mem0 M6142).sliceM hys6097) hap6099 ?_
        intro p6101 c6102 sg6103 w6143 ho6104 M6144
        exact W_nil (ob_end (.slice p6101 ap6099.length c6102) sg6103 rfl (by kernel_rfl) ⟨p6101, c6102, rfl, ho6104⟩ (Mem.takeOver M6144))
      · intro g6082 f6083
        intro R w6145 M6146
        refine W_val (.agg #[.int .i64 x6034, .int .i64 y6073.Size, .int .i64 y6073.Kind, .int .i64 y6073.Unit]) w6145 (by kernel_rfl) (E_load (e := 59) (fr := (0, 0)) _ _ true 4 b6075 0 [.int .i64 x6034, .int .i64 y6073.Size, .int .i64 y6073.Kind, .int .i64 y6073.Unit] (.agg #[.int .i64 x6034, .int .i64 y6073.Size, .int .i64 y6073.Kind, .int .i64 y6073.Unit]) rfl (by kernel_rfl) (by kernel_rfl) (by kernel_rfl) (M6146.blk 0 (b := b6075) (o := .cells ⟨[.int .i64 x6034, .int .i64 y6073.Size, .int .i64 y6073.Kind, .int .i64 y6073.Unit]⟩ 59 (0, 0)) (by kernel_rfl))) ?_
        exact W_nil (ob_end (.agg #[.int .i64 x6034, .int .i64 y6073.Size, .int .i64 y6073.Kind, .int .i64 y6073.Unit]) [] rfl (by kernel_rfl) ⟨by kernel_rfl, rfl⟩ M6146)
      · intro g6082 f6083
        intro v9_ hb9_
        obtain ⟨p6101, c6102, rfl, ho6104⟩ := hb9_
        intro v10_ hb10_
        obtain ⟨rfl, _⟩ := hb10_
        intro w6149 M6150
        have M6151 : Mem [] w w6149 [[(b6075, .cells ⟨[.int .i64 x6034, .int .i64 y6073.Size, .int .i64 y6073.Kind, .int .i64 y6073.Unit]⟩ 59 (0, 0))], (g6082 9)] := M6150
        obtain ⟨r6152, hr6152, hm⟩ := gx_bind hm
        refine W_call 72 #[.slice p6101 ap6099.length c6102, .agg #[.int .i64 x6034, .int .i64 y6073.Size, .int .i64 y6073.Kind, .int .i64 y6073.Unit]] (by kernel_rfl) (by kernel_rfl) ?_
        refine (c_s_l17Add w6149 ap6099 p6101 c6102 (ho6104.rd M6151 1 (by kernel_rfl)) (⟨x6034, y6073.Size, y6073.Kind, y6073.Unit⟩ : Region) hr6152).mono ?_
        rintro e_ w6158 ⟨p6154, c6155, sg6156, rfl, ho6157, K6159⟩
        have M6160 := M6151.call K6159
        refine ⟨_, rfl, ?_⟩
        refine W_run 1 [(9, .slice p6154 r6152.length c6155)] w6158 (by kernel_rfl) ?_
        refine W_nil ?_
        refine N_then ?_
        refine G_seq ?_
        refine G_seq ?_
        refine G_region ?_
        refine W_run 1 [(9, .slice p6154 r6152.length c6155), (40, .slice p6154 r6152.length c6155)] w6158 (by kernel_rfl) ?_
        obtain ⟨r6161, hr6161, hm⟩ := gx_bind hm
        refine W_call 60 #[.slice p6154 r6152.length c6155] (by kernel_rfl) (by kernel_rfl) ?_
        refine (c_s_l17Good w6158 r6152 p6154 c6155 (ho6157.rd M6160 2 (by kernel_rfl)) hr6161).mono ?_
        rintro e_ w6162 ⟨rfl, K6163⟩
        have M6164 := M6160.call0 K6163
        refine ⟨_, rfl, ?_⟩
        refine W_run 1 [(9, .slice p6154 r6152.length c6155), (42, .bool (!r6161))] w6162 (by kernel_rfl) ?_
        refine W_nil ?_
        refine N_then ?_
        rcases gx_bif hm with ⟨hc6165, hm⟩ | ⟨hc6165, hm⟩
        · refine G_cond_t (b := (!r6161)) hc6165 (by kernel_rfl) ?_
          refine G_seq ?_
          refine G_region ?_
          refine W_lit (E := encRegion) ([] : List Region) 0 [] 59 M6164 (by kernel_rfl) (by kernel_rfl) (by kernel_rfl) (by kernel_rfl) (by kernel_rfl) ?_
          intro p6166 c6167 sg6168 w6169 ho6170 M6171
          refine W_run 2 [(6, .slice p6166 ([] : List Region).length c6167), (7, .bool false)] w6169 (by kernel_rfl) ?_
          refine W_nil ?_
          refine N_then ?_
          refine G_ret ?_
          refine N_then_ret ?_
          obtain rfl := Option.some.inj hm
          refine N_ret [.slice p6166 ([] : List Region).length c6167, .bool false] (RVs_cons (RV_tmp (by kernel_rfl)) (RVs_cons (RV_tmp (by kernel_rfl)) RVs_nil)) ?_
          exact ⟨p6166, c6167, sg6168, rfl, ho6170, M6171.pick [3] (by kernel_rfl)⟩
        · refine G_cond_f (b := (!r6161)) hc6165 (by kernel_rfl) ?_
          refine G_skip ?_
          refine N_then ?_
          refine G_seq ?_
          refine G_region ?_
          refine W_run 3 [(6, .slice p6154 r6152.length c6155), (7, .bool true)] w6162 (by kernel_rfl) ?_
          refine W_nil ?_
          refine N_then ?_
          refine G_ret ?_
          obtain rfl := Option.some.inj hm
          refine N_ret [.slice p6154 r6152.length c6155, .bool true] (RVs_cons (RV_tmp (by kernel_rfl)) (RVs_cons (RV_tmp (by kernel_rfl)) RVs_nil)) ?_
          exact ⟨p6154, c6155, sg6156, rfl, ho6157, M6164.pick [2] (by kernel_rfl)⟩
theorem c_i_findRegion_1 (w : World) (x6228 : Region) (x6229 : Int) (b6230 : Nat) (hb6231 : w.heap[b6230]? = some (.cells ⟨[.int .i64 x6229]⟩ 3 (0, 0))) {r : Bool} (hm : M.i_findRegion_1 x6228 x6229 = some r) :
    Calls Try.prog 88 #[.agg #[.int .i64 x6228.Base, .int .i64 x6228.Size, .int .i64 x6228.Kind, .int .i64 x6228.Unit], .pointer (some ⟨b6230, 0, none⟩)] w fun e w' => e = .returned (.bool r) ∧ Mem [] w w' [] := by
  unfold M.i_findRegion_1 at hm
  refine C_enter Try.func88 rfl (by kernel_rfl) ?_
  have M0 := Mem.refl [] w
  refine G_seq ?_
  refine G_region ?_
  refine W_new (fun b => .pointer (some ⟨b, 0, none⟩)) (.cells ⟨[.int .i64 x6228.Base, .int .i64 x6228.Size, .int .i64 x6228.Kind, .int .i64 x6228.Unit]⟩ 59 (0, 0)) M0 rfl (by kernel_rfl) (by kernel_rfl) ?_
  intro b6234 w6235 M6236
  refine W_run 1 [(1, .pointer (some ⟨b6230, 0, none⟩)), (2, .pointer (some ⟨b6234, 0, none⟩))] w6235 (by kernel_rfl) ?_
  refine W_nil ?_
  refine N_then ?_
  refine G_seq ?_
  refine G_region ?_
  refine W_val (.int .i64 x6229) w6235 (by kernel_rfl) (E_load (e := 3) (fr := (0, 0)) _ _ false 1 b6230 0 [.int .i64 x6229] (.int .i64 x6229) rfl (by kernel_rfl) (by kernel_rfl) (by kernel_rfl) (M6236.ro hb6231)) ?_
  refine W_run 1 [(2, .pointer (some ⟨b6234, 0, none⟩)), (4, .int .i64 x6229), (5, .pointer (some ⟨b6234, 0, none⟩))] w6235 (by kernel_rfl) ?_
  refine W_val (.int .i64 x6228.Base) w6235 (by kernel_rfl) (E_load (e := 59) (fr := (0, 0)) _ _ false 1 b6234 0 [.int .i64 x6228.Base, .int .i64 x6228.Size, .int .i64 x6228.Kind, .int .i64 x6228.Unit] (.int .i64 x6228.Base) rfl (by kernel_rfl) (by kernel_rfl) (by kernel_rfl) (M6236.blk 0 (b := b6234) (o := .cells ⟨[.int .i64 x6228.Base, .int .i64 x6228.Size, .int .i64 x6228.Kind, .int .i64 x6228.Unit]⟩ 59 (0, 0)) (by kernel_rfl))) ?_
  refine W_run 1 [(2, .pointer (some ⟨b6234, 0, none⟩)), (4, .int .i64 x6229), (6, .int .i64 x6228.Base), (7, .pointer (some ⟨b6234, 0, none⟩))] w6235 (by kernel_rfl) ?_
  refine W_val (.int .i64 x6228.Base) w6235 (by kernel_rfl) (E_load (e := 59) (fr := (0, 0)) _ _ false 1 b6234 0 [.int .i64 x6228.Base, .int .i64 x6228.Size, .int .i64 x6228.Kind, .int .i64 x6228.Unit] (.int .i64 x6228.Base) rfl (by kernel_rfl) (by kernel_rfl) (by kernel_rfl) (M6236.blk 0 (b := b6234) (o := .cells ⟨[.int .i64 x6228.Base, .int .i64 x6228.Size, .int .i64 x6228.Kind, .int .i64 x6228.Unit]⟩ 59 (0, 0)) (by kernel_rfl))) ?_
  refine W_run 1 [(4, .int .i64 x6229), (6, .int .i64 x6228.Base), (8, .int .i64 x6228.Base), (9, .pointer (some ⟨b6234, 1, none⟩))] w6235 (by kernel_rfl) ?_
  refine W_val (.int .i64 x6228.Size) w6235 (by kernel_rfl) (E_load (e := 59) (fr := (0, 0)) _ _ false 1 b6234 1 [.int .i64 x6228.Base, .int .i64 x6228.Size, .int .i64 x6228.Kind, .int .i64 x6228.Unit] (.int .i64 x6228.Size) rfl (by kernel_rfl) (by kernel_rfl) (by kernel_rfl) (M6236.blk 0 (b := b6234) (o := .cells ⟨[.int .i64 x6228.Base, .int .i64 x6228.Size, .int .i64 x6228.Kind, .int .i64 x6228.Unit]⟩ 59 (0, 0)) (by kernel_rfl))) ?_
  refine W_run 2 [(4, .int .i64 x6229), (6, .int .i64 x6228.Base), (12, .int .i64 (w64 ((w64 (x6228.Base + x6228.Size)) - 1)))] w6235 (by kernel_rfl) ?_
  obtain ⟨r6237, hr6237, hm⟩ := gx_bind hm
  refine W_call 58 #[.int .i64 x6229, .int .i64 x6228.Base, .int .i64 (w64 ((w64 (x6228.Base + x6228.Size)) - 1))] (by kernel_rfl) (by kernel_rfl) ?_
  refine (c_i_inside w6235 x6229 x6228.Base (w64 ((w64 (x6228.Base + x6228.Size)) - 1)) hr6237).mono ?_
  rintro e_ w6238 ⟨rfl, K6239⟩
  have M6240 := M6236.call0 K6239
  refine ⟨_, rfl, ?_⟩
  refine W_run 1 [(3, .bool r6237)] w6238 (by kernel_rfl) ?_
  refine W_nil ?_
  refine N_then ?_
  refine G_ret ?_
  obtain rfl := Option.some.inj hm
  refine N_ret [.bool r6237] (RVs_cons (RV_tmp (by kernel_rfl)) RVs_nil) ?_
  exact ⟨rfl, M6240.pick [] (by kernel_rfl)⟩
theorem c_slices_IndexFunc_87__i_findRegion_1 (w : World) (x6217 : List Region) (p6219 : Option Addr) (c6220 : Nat) (h6221 : rdS encRegion w x6217 p6219 c6220) (x6222 : Int) (b6223 : Nat) (hb6224 : w.heap[b6223]? = some (.cells ⟨[.int .i64 x6222]⟩ 3 (0, 0))) {r : Int} (hm : M.slices_IndexFunc_87__i_findRegion_1 x6217 x6222 = some r) :
    Calls Try.prog 87 #[.slice p6219 x6217.length c6220, .func (.func 88) #[] #[.pointer (some ⟨b6223, 0, none⟩)]] w fun e w' => e = .returned (.int .i64 r) ∧ Mem [] w w' [] := by
  unfold M.slices_IndexFunc_87__i_findRegion_1 at hm
  refine C_enter Try.func87 rfl (by kernel_rfl) ?_
  have M0 := Mem.refl [] w
  refine G_seq ?_
  refine G_region ?_
  refine W_run 1 [(0, .slice p6219 x6217.length c6220), (1, .func (.func 88) #[] #[.pointer (some ⟨b6223, 0, none⟩)])] w (by kernel_rfl) ?_
  refine W_nil ?_
  refine N_then ?_
  refine G_seq ?_
  refine G_seq ?_
  refine G_region ?_
  refine W_run 3 [(0, .slice p6219 x6217.length c6220), (1, .func (.func 88) #[] #[.pointer (some ⟨b6223, 0, none⟩)]), (7, .int .i64 (x6217.length : Int)), (8, .int .i64 0)] w (by kernel_rfl) ?_
  refine W_nil ?_
  refine N_then ?_
  obtain ⟨out6260, hw6261, hmo6262⟩ := gx_bind hm
  refine G_meet (fun a w' => ∃ (o6263 : Unit), out6260 = .inl o6263 ∧ Mem [] w w' [] ∧ Sat Try.f87.ntmps [] a) ?_ ?_
  · refine G_block ?_
    refine G_while (σ := Int) (ρ := (Unit) ⊕ (Int)) (fun s6253 a w' => Mem [] w w' [] ∧ Sat Try.f87.ntmps [(0, .slice p6219 x6217.length c6220), (1, .func (.func 88) #[] #[.pointer (some ⟨b6223, 0, none⟩)]), (7, .int .i64 (x6217.length : Int)), (8, .int .i64 s6253)] a) hw6261 (fun a ha => ⟨M0.pick [] (by kernel_rfl), ha.sub (by kernel_rfl)⟩) ?_
    clear hm
    intro s6253 x6254 hm hout6255 a6256 w6257 ⟨M6258, hS6259⟩
    refine G_use hS6259 ?_
    refine G_seq ?_
    refine G_region ?_
    refine W_run 1 [(0, .slice p6219 x6217.length c6220), (1, .func (.func 88) #[] #[.pointer (some ⟨b6223, 0, none⟩)]), (7, .int .i64 (x6217.length : Int)), (8, .int .i64 s6253), (9, .bool (decide (s6253 < (x6217.length : Int))))] w6257 (by kernel_rfl) ?_
    refine W_nil ?_
    refine N_then ?_
    refine G_seq ?_
    rcases gx_bif hm with ⟨hc6264, hm⟩ | ⟨hc6264, hm⟩
    · refine G_cond_t (b := (decide (s6253 < (x6217.length : Int)))) hc6264 (by kernel_rfl) ?_
      refine G_skip ?_
      refine N_then ?_
      refine G_seq ?_
      refine G_block ?_
      refine G_seq ?_
      refine G_region ?_
      refine W_run 2 [(0, .slice p6219 x6217.length c6220), (1, .func (.func 88) #[] #[.pointer (some ⟨b6223, 0, none⟩)]), (5, .int .i64 s6253), (7, .int .i64 (x6217.length : Int)), (8, .int .i64 s6253)] w6257 (by kernel_rfl) ?_
      refine W_nil ?_
      refine N_then ?_
      refine G_seq ?_
      refine G_region ?_
      refine W_run 3 [(0, .slice p6219 x6217.length c6220), (1, .func (.func 88) #[] #[.pointer (some ⟨b6223, 0, none⟩)]), (5, .int .i64 s6253), (7, .int .i64 (x6217.length : Int)), (8, .int .i64 s6253), (11, .func (.func 88) #[] #[.pointer (some ⟨b6223, 0, none⟩)]), (12, .slice p6219 x6217.length c6220), (13, .int .i64 s6253)] w6257 (by kernel_rfl) ?_
      obtain ⟨y6265, hy6265, hm⟩ := gx_bind hm
      refine W_val (elemP p6219 (s6253.toNat * 4)) w6257 (by kernel_rfl) (E_index (E := encRegion) _ _ _ x6217.length c6220 .i64 s6253 4 (y := y6265) rfl (by kernel_rfl) (by kernel_rfl) (by kernel_rfl) (h6221.mem0 M6258) rfl hy6265) ?_
      refine W_val (.agg #[.int .i64 y6265.Base, .int .i64 y6265.Size, .int .i64 y6265.Kind, .int .i64 y6265.Unit]) w6257 (by kernel_rfl) (E_loadE (E := encRegion) _ _ true 4 s6253 0 (s6253.toNat * 4) y6265 (.agg #[.int .i64 y6265.Base, .int .i64 y6265.Size, .int .i64 y6265.Kind, .int .i64 y6265.Unit]) rfl (by kernel_rfl) (by kernel_rfl) (by kernel_rfl) (h6221.mem0 M6258) hy6265 rfl) ?_
      obtain ⟨r6266, hr6266, hm⟩ := gx_bind hm
      refine W_call 88 #[.agg #[.int .i64 y6265.Base, .int .i64 y6265.Size, .int .i64 y6265.Kind, .int .i64 y6265.Unit], .pointer (some ⟨b6223, 0, none⟩)] (by kernel_rfl) (by kernel_rfl) ?_
      refine (c_i_findRegion_1 w6257 y6265 x6222 b6223 (M6258.ro hb6224) hr6266).mono ?_
      rintro e_ w6267 ⟨rfl, K6268⟩
      have M6269 := M6258.call0 K6268
      refine ⟨_, rfl, ?_⟩
      refine W_nil ?_
      refine N_then ?_
      rcases gx_bif hm with ⟨hc6270, hm⟩ | ⟨hc6270, hm⟩
      · refine G_cond_t (b := r6266) hc6270 (by kernel_rfl) ?_
        refine G_seq ?_
        refine G_region ?_
        refine W_run 2 [(4, .int .i64 s6253)] w6267 (by kernel_rfl) ?_
        refine W_nil ?_
        refine N_then ?_
        refine G_ret ?_
        refine N_block_ret ?_
        refine N_then_ret ?_
        refine N_then_ret ?_
        obtain rfl := Option.some.inj hm
        obtain rfl := hout6255 _ rfl
        have hm := hmo6262; simp only [Sum.elim_inr] at hm
        refine N_block_ret ?_
        refine N_meet_ret ?_
        refine N_then_ret ?_
        obtain rfl := Option.some.inj hm
        refine N_ret [.int .i64 s6253] (RVs_cons (RV_tmp (by kernel_rfl)) RVs_nil) ?_
        exact ⟨rfl, M6269.pick [] (by kernel_rfl)⟩
      · refine G_cond_f (b := r6266) hc6270 (by kernel_rfl) ?_
        refine G_skip ?_
        refine N_block ?_
        refine N_then ?_
        refine G_region ?_
        refine W_run 2 [(0, .slice p6219 x6217.length c6220), (1, .func (.func 88) #[] #[.pointer (some ⟨b6223, 0, none⟩)]), (7, .int .i64 (x6217.length : Int)), (8, .int .i64 (w64 (s6253 + 1)))] w6267 (by kernel_rfl) ?_
        refine W_nil ?_
        obtain rfl := Option.some.inj hm
        exact N_loop fun a ha => ⟨_, rfl, M6269.pick [] (by kernel_rfl), ha.sub (by kernel_rfl)⟩
    · refine G_cond_f (b := (decide (s6253 < (x6217.length : Int)))) hc6264 (by kernel_rfl) ?_
      refine G_exit ?_
      refine N_then_exit ?_
      refine N_then_exit ?_
      refine N_block_eq ?_
      obtain rfl := Option.some.inj hm
      obtain rfl := hout6255 _ rfl
      exact N_meet fun a ha => ⟨_, rfl, M6258.pick [] (by kernel_rfl), ha.sub (by kernel_rfl)⟩
  · intro a6271 w6272 ⟨o6263, hout_, M6273, hS6274⟩
    refine N_use hS6274 ?_
    subst hout_
    have hm := hmo6262; simp only [Sum.elim_inl] at hm
    refine N_then ?_
    refine G_seq ?_
    refine G_region ?_
    refine W_run 1 [(4, .int .i64 (-1))] w6272 (by kernel_rfl) ?_
    refine W_nil ?_
    refine N_then ?_
    refine G_ret ?_
    obtain rfl := Option.some.inj hm
    refine N_ret [.int .i64 (-1)] (RVs_cons (RV_tmp (by kernel_rfl)) RVs_nil) ?_
    exact ⟨rfl, M6273.pick [] (by kernel_rfl)⟩
theorem c_i_findRegion (w : World) (x6207 : List Region) (p6209 : Option Addr) (c6210 : Nat) (h6211 : rdS encRegion w x6207 p6209 c6210) (x6212 : Int) {r : Int} (hm : M.i_findRegion x6207 x6212 = some r) :
    Calls Try.prog 65 #[.slice p6209 x6207.length c6210, .int .i64 x6212] w fun e w' => e = .returned (.int .i64 r) ∧ Mem [] w w' [] := by
  unfold M.i_findRegion at hm
  refine C_enter Try.func65 rfl (by kernel_rfl) ?_
  have M0 := Mem.refl [] w
  refine G_seq ?_
  refine G_region ?_
  refine W_new (fun b => .pointer (some ⟨b, 0, none⟩)) (.cells ⟨[.int .i64 x6212]⟩ 3 (0, 0)) M0 rfl (by kernel_rfl) (by kernel_rfl) ?_
  intro b6214 w6215 M6216
  refine W_run 1 [(0, .slice p6209 x6207.length c6210), (3, .pointer (some ⟨b6214, 0, none⟩))] w6215 (by kernel_rfl) ?_
  refine W_nil ?_
  refine N_then ?_
  refine G_seq ?_
  refine G_region ?_
  refine W_run 2 [(5, .slice p6209 x6207.length c6210), (6, .func (.func 88) #[] #[.pointer (some ⟨b6214, 0, none⟩)])] w6215 (by kernel_rfl) ?_
  obtain ⟨r6275, hr6275, hm⟩ := gx_bind hm
  refine W_call 87 #[.slice p6209 x6207.length c6210, .func (.func 88) #[] #[.pointer (some ⟨b6214, 0, none⟩)]] (by kernel_rfl) (by kernel_rfl) ?_
  refine (c_slices_IndexFunc_87__i_findRegion_1 w6215 x6207 p6209 c6210 (h6211.mem0 M6216) x6212 b6214 (M6216.blk 0 (b := b6214) (o := .cells ⟨[.int .i64 x6212]⟩ 3 (0, 0)) (by kernel_rfl)) hr6275).mono ?_
  rintro e_ w6276 ⟨rfl, K6277⟩
  have M6278 := M6216.call0 K6277
  refine ⟨_, rfl, ?_⟩
  refine W_run 1 [(4, .int .i64 r6275)] w6276 (by kernel_rfl) ?_
  refine W_nil ?_
  refine N_then ?_
  refine G_ret ?_
  obtain rfl := Option.some.inj hm
  refine N_ret [.int .i64 r6275] (RVs_cons (RV_tmp (by kernel_rfl)) RVs_nil) ?_
  exact ⟨rfl, M6278.pick [] (by kernel_rfl)⟩
theorem c_i_FindRegion (w : World) (x6201 : List Region) (p6203 : Option Addr) (c6204 : Nat) (h6205 : rdS encRegion w x6201 p6203 c6204) (x6206 : Int) {r : Int × Bool} (hm : M.i_FindRegion x6201 x6206 = some r) :
    Calls Try.prog 42 #[.slice p6203 x6201.length c6204, .int .i64 x6206] w fun e w' => e = .returned (.tuple #[.int .i64 r.1, .bool r.2]) ∧ Mem [] w w' [] := by
  unfold M.i_FindRegion at hm
  refine C_enter Try.func42 rfl (by kernel_rfl) ?_
  have M0 := Mem.refl [] w
  refine G_seq ?_
  refine G_region ?_
  refine W_run 2 [(0, .slice p6203 x6201.length c6204), (1, .int .i64 x6206)] w (by kernel_rfl) ?_
  refine W_nil ?_
  refine N_then ?_
  refine G_seq ?_
  refine G_region ?_
  refine W_run 2 [(0, .slice p6203 x6201.length c6204), (7, .slice p6203 x6201.length c6204), (8, .int .i64 x6206)] w (by kernel_rfl) ?_
  obtain ⟨r6279, hr6279, hm⟩ := gx_bind hm
  refine W_call 65 #[.slice p6203 x6201.length c6204, .int .i64 x6206] (by kernel_rfl) (by kernel_rfl) ?_
  refine (c_i_findRegion w x6201 p6203 c6204 (h6205.mem0 M0) x6206 hr6279).mono ?_
  rintro e_ w6280 ⟨rfl, K6281⟩
  have M6282 := M0.call0 K6281
  refine ⟨_, rfl, ?_⟩
  refine W_run 1 [(0, .slice p6203 x6201.length c6204), (6, .int .i64 r6279)] w6280 (by kernel_rfl) ?_
  refine W_nil ?_
  refine N_then ?_
  refine G_seq ?_
  refine G_seq ?_
  obtain ⟨o6288, ho6289, hm6290⟩ := gx_bind hm
  refine G_meet (fun a w' => Mem [] w w' [] ∧ Sat Try.f42.ntmps [(6, .int .i64 r6279), (16, .bool o6288)] a) ?_ ?_
  · have hm := ho6289
    refine G_region ?_
    refine W_run 1 [(6, .int .i64 r6279), (10, .slice p6203 x6201.length c6204)] w6280 (by kernel_rfl) ?_
    obtain ⟨r6291, hr6291, hm⟩ := gx_bind hm
    refine W_call 49 #[.slice p6203 x6201.length c6204] (by kernel_rfl) (by kernel_rfl) ?_
    refine (c_i_IsMap w6280 x6201 p6203 c6204 (h6205.mem0 M6282) hr6291).mono ?_
    rintro e_ w6292 ⟨rfl, K6293⟩
    have M6294 := M6282.call0 K6293
    refine ⟨_, rfl, ?_⟩
    refine W_run 2 [(6, .int .i64 r6279), (13, .bool (!r6291))] w6292 (by kernel_rfl) ?_
    rcases gx_bif hm with ⟨hc6295, hm⟩ | ⟨hc6295, hm⟩
    · refine W_known 13 true (by kernel_rfl) hc6295 ?_
      refine W_run 3 [(6, .int .i64 r6279), (16, .bool true)] w6292 (by kernel_rfl) ?_
      refine W_nil ?_
      obtain rfl := Option.some.inj hm
      exact N_meet fun a ha => ⟨M6294.pick [] (by kernel_rfl), ha.sub (by kernel_rfl)⟩
    · refine W_known 13 false (by kernel_rfl) hc6295 ?_
      refine W_run 3 [(6, .int .i64 r6279), (16, .bool (decide (r6279 < 0)))] w6292 (by kernel_rfl) ?_
      refine W_nil ?_
      obtain rfl := Option.some.inj hm
      exact N_meet fun a ha => ⟨M6294.pick [] (by kernel_rfl), ha.sub (by kernel_rfl)⟩
  · intro a6298 w6296 ⟨M6297, hS6299⟩
    refine N_use hS6299 ?_
    have hm := hm6290
    refine N_then ?_
    rcases gx_bif hm with ⟨hc6300, hm⟩ | ⟨hc6300, hm⟩
    · refine G_cond_t (b := o6288) hc6300 (by kernel_rfl) ?_
      refine G_seq ?_
      refine G_region ?_
      refine W_run 2 [(4, .int .i64 0), (5, .bool false)] w6296 (by kernel_rfl) ?_
      refine W_nil ?_
      refine N_then ?_
      refine G_ret ?_
      refine N_then_ret ?_
      obtain rfl := Option.some.inj hm
      refine N_ret [.int .i64 0, .bool false] (RVs_cons (RV_tmp (by kernel_rfl)) (RVs_cons (RV_tmp (by kernel_rfl)) RVs_nil)) ?_
      exact ⟨rfl, M6297.pick [] (by kernel_rfl)⟩
    · refine G_cond_f (b := o6288) hc6300 (by kernel_rfl) ?_
      refine G_skip ?_
      refine N_then ?_
      refine G_seq ?_
      refine G_region ?_
      refine W_run 3 [(4, .int .i64 r6279), (5, .bool true)] w6296 (by kernel_rfl) ?_
      refine W_nil ?_
      refine N_then ?_
      refine G_ret ?_
      obtain rfl := Option.some.inj hm
      refine N_ret [.int .i64 r6279, .bool true] (RVs_cons (RV_tmp (by kernel_rfl)) (RVs_cons (RV_tmp (by kernel_rfl)) RVs_nil)) ?_
      exact ⟨rfl, M6297.pick [] (by kernel_rfl)⟩
theorem c_s_DrawIsMap (w : World) (x6388 : List Int) (p6390 : Option Addr) (c6391 : Nat) (h6392 : rdS encU8 w x6388 p6390 c6391) {r : (List Region)} (hm : M.s_DrawIsMap x6388 = some r) :
    Calls Try.prog 83 #[.slice p6390 x6388.length c6391] w fun e w' => ∃ (p6394 : Option Addr) (c6395 : Nat) (sg6396 : Seg), e = .returned (.slice p6394 r.length c6395) ∧ ownS encRegion r p6394 c6395 sg6396 ∧ Mem [] w w' [sg6396] := by
  unfold M.s_DrawIsMap at hm
  refine C_enter Try.func83 rfl (by kernel_rfl) ?_
  have M0 := Mem.refl [] w
  refine G_seq ?_
  refine G_region ?_
  refine W_run 1 [(0, .slice p6390 x6388.length c6391)] w (by kernel_rfl) ?_
  refine W_nil ?_
  refine N_then ?_
  refine G_seq ?_
  refine G_region ?_
  refine W_run 2 [(5, .agg #[.slice p6390 x6388.length c6391, .int .i64 0, .int .u64 0])] w (by kernel_rfl) ?_
  refine W_new (fun b => .pointer (some ⟨b, 0, none⟩)) (.cells ⟨[.slice p6390 x6388.length c6391, .int .i64 0, .int .u64 0]⟩ 89 (0, 0)) M0 rfl (by kernel_rfl) (by kernel_rfl) ?_
  intro b6400 w6401 M6402
  refine W_run 1 [(3, .pointer (some ⟨b6400, 0, none⟩))] w6401 (by kernel_rfl) ?_
  refine W_nil ?_
  refine N_then ?_
  refine G_seq ?_
  refine G_region ?_
  refine W_run 1 [(7, .pointer (some ⟨b6400, 0, none⟩))] w6401 (by kernel_rfl) ?_
  obtain ⟨r6403, hr6403, hm⟩ := gx_bind hm
  refine W_call 77 #[.pointer (some ⟨b6400, 0, none⟩)] (by kernel_rfl) (by kernel_rfl) ?_
  refine (c_s_l1Cur_regions w6401 (⟨x6388, 0, 0⟩ : l1Cur) p6390 c6391 (h6392.mem0 M6402) b6400 (M6402.hasPick [0]) (M6402.nodupPick [0] (by kernel_rfl)) (apartX.old0 h6392 M6402 [0]) hr6403).mono ?_
  rintro e_ w6409 ⟨p6405, c6406, sg6407, rfl, ho6408, K6410⟩
  have M6411 := M6402.callF' [0] [] (by kernel_rfl) K6410
  refine ⟨_, rfl, ?_⟩
  refine W_run 1 [(2, .slice p6405 r6403.1.length c6406)] w6409 (by kernel_rfl) ?_
  refine W_nil ?_
  refine N_then ?_
  refine G_ret ?_
  obtain rfl := Option.some.inj hm
  refine N_ret [.slice p6405 r6403.1.length c6406] (RVs_cons (RV_tmp (by kernel_rfl)) RVs_nil) ?_
  exact ⟨p6405, c6406, sg6407, rfl, ho6408, M6411.pick [1] (by kernel_rfl)⟩
theorem c_s_DrawFreeSpace (w : World) (x6378 : List Int) (p6380 : Option Addr) (c6381 : Nat) (h6382 : rdS encU8 w x6378 p6380 c6381) {r : (List Region)} (hm : M.s_DrawFreeSpace x6378 = some r) :
    Calls Try.prog 54 #[.slice p6380 x6378.length c6381] w fun e w' => ∃ (p6384 : Option Addr) (c6385 : Nat) (sg6386 : Seg), e = .returned (.slice p6384 r.length c6385) ∧ ownS encRegion r p6384 c6385 sg6386 ∧ Mem [] w w' [sg6386] := by
  unfold M.s_DrawFreeSpace at hm
  refine C_enter Try.func54 rfl (by kernel_rfl) ?_
  have M0 := Mem.refl [] w
  refine G_seq ?_
  refine G_region ?_
  refine W_run 1 [(0, .slice p6380 x6378.length c6381)] w (by kernel_rfl) ?_
  refine W_nil ?_
  refine N_then ?_
  refine G_seq ?_
  refine G_region ?_
  refine W_run 1 [(3, .slice p6380 x6378.length c6381)] w (by kernel_rfl) ?_
  obtain ⟨r6412, hr6412, hm⟩ := gx_bind hm
  refine W_call 83 #[.slice p6380 x6378.length c6381] (by kernel_rfl) (by kernel_rfl) ?_
  refine (c_s_DrawIsMap w x6378 p6380 c6381 (h6382.mem0 M0) hr6412).mono ?_
  rintro e_ w6418 ⟨p6414, c6415, sg6416, rfl, ho6417, K6419⟩
  have M6420 := M0.call K6419
  refine ⟨_, rfl, ?_⟩
  refine W_run 1 [(2, .slice p6414 r6412.length c6415)] w6418 (by kernel_rfl) ?_
  refine W_nil ?_
  refine N_then ?_
  refine G_ret ?_
  obtain rfl := Option.some.inj hm
  refine N_ret [.slice p6414 r6412.length c6415] (RVs_cons (RV_tmp (by kernel_rfl)) RVs_nil) ?_
  exact ⟨p6414, c6415, sg6416, rfl, ho6417, M6420.pick [0] (by kernel_rfl)⟩
theorem c_s_FreeSpace (w : World) (x6434 : List Region) (p6436 : Option Addr) (c6437 : Nat) (h6438 : rdS encRegion w x6434 p6436 c6437) {r : Int × Bool} (hm : M.s_FreeSpace x6434 = some r) :
    Calls Try.prog 55 #[.slice p6436 x6434.length c6437] w fun e w' => e = .returned (.tuple #[.int .i64 r.1, .bool r.2]) ∧ Mem [] w w' [] := by
  unfold M.s_FreeSpace at hm
  refine C_enter Try.func55 rfl (by kernel_rfl) ?_
  have M0 := Mem.refl [] w
  refine G_seq ?_
  refine G_region ?_
  refine W_run 2 [(0, .slice p6436 x6434.length c6437)] w (by kernel_rfl) ?_
  refine W_nil ?_
  refine N_then ?_
  refine G_seq ?_
  refine G_seq ?_
  refine G_region ?_
  refine W_run 1 [(0, .slice p6436 x6434.length c6437), (6, .slice p6436 x6434.length c6437)] w (by kernel_rfl) ?_
  obtain ⟨r6439, hr6439, hm⟩ := gx_bind hm
  refine W_call 60 #[.slice p6436 x6434.length c6437] (by kernel_rfl) (by kernel_rfl) ?_
  refine (c_s_l17Good w x6434 p6436 c6437 (h6438.mem0 M0) hr6439).mono ?_
  rintro e_ w6440 ⟨rfl, K6441⟩
  have M6442 := M0.call0 K6441
  refine ⟨_, rfl, ?_⟩
  refine W_run 1 [(0, .slice p6436 x6434.length c6437), (8, .bool (!r6439))] w6440 (by kernel_rfl) ?_
  refine W_nil ?_
  refine N_then ?_
  rcases gx_bif hm with ⟨hc6443, hm⟩ | ⟨hc6443, hm⟩
  · refine G_cond_t (b := (!r6439)) hc6443 (by kernel_rfl) ?_
    refine G_seq ?_
    refine G_region ?_
    refine W_run 2 [(2, .int .i64 0), (3, .bool false)] w6440 (by kernel_rfl) ?_
    refine W_nil ?_
    refine N_then ?_
    refine G_ret ?_
    refine N_then_ret ?_
    obtain rfl := Option.some.inj hm
    refine N_ret [.int .i64 0, .bool false] (RVs_cons (RV_tmp (by kernel_rfl)) (RVs_cons (RV_tmp (by kernel_rfl)) RVs_nil)) ?_
    exact ⟨rfl, M6442.pick [] (by kernel_rfl)⟩
  · refine G_cond_f (b := (!r6439)) hc6443 (by kernel_rfl) ?_
    refine G_skip ?_
    refine N_then ?_
    refine G_seq ?_
    refine G_region ?_
    refine W_run 1 [(0, .slice p6436 x6434.length c6437), (4, .int .i64 65536)] w6440 (by kernel_rfl) ?_
    refine W_nil ?_
    refine N_then ?_
    refine G_seq ?_
    refine G_seq ?_
    refine G_region ?_
    refine W_run 1 [(0, .slice p6436 x6434.length c6437), (4, .int .i64 65536), (5, .int .i64 0)] w6440 (by kernel_rfl) ?_
    refine W_nil ?_
    refine N_then ?_
    obtain ⟨out6455, hw6456, hmo6457⟩ := gx_bind hm
    refine G_meet (fun a w' => Mem [] w w' [] ∧ Sat Try.f55.ntmps [(4, .int .i64 out6455)] a) ?_ ?_
    · refine G_block ?_
      refine G_while (σ := Int × Int) (ρ := Int) (fun s6448 a w' => Mem [] w w' [] ∧ Sat Try.f55.ntmps [(0, .slice p6436 x6434.length c6437), (4, .int .i64 s6448.1), (5, .int .i64 s6448.2)] a) hw6456 (fun a ha => ⟨M6442.pick [] (by kernel_rfl), ha.sub (by kernel_rfl)⟩) ?_
      clear hm
      intro s6448 x6449 hm hout6450 a6451 w6452 ⟨M6453, hS6454⟩
      refine G_use hS6454 ?_
      refine G_seq ?_
      refine G_seq ?_
      refine G_region ?_
      refine W_run 4 [(0, .slice p6436 x6434.length c6437), (4, .int .i64 s6448.1), (5, .int .i64 s6448.2), (12, .bool (decide (s6448.2 < (x6434.length : Int))))] w6452 (by kernel_rfl) ?_
      refine W_nil ?_
      refine N_then ?_
      rcases gx_bif hm with ⟨hc6459, hm⟩ | ⟨hc6459, hm⟩
      · refine G_cond_t (b := (decide (s6448.2 < (x6434.length : Int)))) hc6459 (by kernel_rfl) ?_
        refine G_skip ?_
        refine N_then ?_
        refine G_seq ?_
        refine G_block ?_
        refine G_region ?_
        refine W_run 3 [(0, .slice p6436 x6434.length c6437), (4, .int .i64 s6448.1), (5, .int .i64 s6448.2), (15, .int .i64 s6448.1), (16, .slice p6436 x6434.length c6437), (17, .int .i64 s6448.2)] w6452 (by kernel_rfl) ?_
        obtain ⟨y6460, hy6460, hm⟩ := gx_bind hm
        refine W_val (elemP p6436 (s6448.2.toNat * 4)) w6452 (by kernel_rfl) (E_index (E := encRegion) _ _ _ x6434.length c6437 .i64 s6448.2 4 (y := y6460) rfl (by kernel_rfl) (by kernel_rfl) (by kernel_rfl) (h6438.mem0 M6453) rfl hy6460) ?_
        refine W_val (elemP p6436 (s6448.2.toNat * 4 + 1)) w6452 (by kernel_rfl) (E_fieldE (E := encRegion) _ _ 1 (s6448.2.toNat * 4) 1 rfl (by kernel_rfl) (by kernel_rfl) (h6438.mem0 M6453) hy6460) ?_
        refine W_val (.int .i64 y6460.Size) w6452 (by kernel_rfl) (E_loadE (E := encRegion) _ _ false 1 s6448.2 1 (s6448.2.toNat * 4 + 1) y6460 (.int .i64 y6460.Size) rfl (by kernel_rfl) (by kernel_rfl) (by kernel_rfl) (h6438.mem0 M6453) hy6460 rfl) ?_
        refine W_run 2 [(0, .slice p6436 x6434.length c6437), (4, .int .i64 (w64 (s6448.1 - y6460.Size))), (5, .int .i64 s6448.2)] w6452 (by kernel_rfl) ?_
        refine W_nil ?_
        refine N_block ?_
        refine N_then ?_
        refine G_region ?_
        refine W_run 3 [(0, .slice p6436 x6434.length c6437), (4, .int .i64 (w64 (s6448.1 - y6460.Size))), (5, .int .i64 (w64 (s6448.2 + 1)))] w6452 (by kernel_rfl) ?_
        refine W_nil ?_
        obtain rfl := Option.some.inj hm
        exact N_loop fun a ha => ⟨_, rfl, M6453.pick [] (by kernel_rfl), ha.sub (by kernel_rfl)⟩
      · refine G_cond_f (b := (decide (s6448.2 < (x6434.length : Int)))) hc6459 (by kernel_rfl) ?_
        refine G_exit ?_
        refine N_then_exit ?_
        refine N_then_exit ?_
        refine N_block_eq ?_
        obtain rfl := Option.some.inj hm
        obtain rfl := hout6450 _ rfl
        exact N_meet fun a ha => ⟨M6453.pick [] (by kernel_rfl), ha.sub (by kernel_rfl)⟩
    · intro a6461 w6462 ⟨M6463, hS6464⟩
      refine N_use hS6464 ?_
      have hm := hmo6457
      refine N_then ?_
      refine G_seq ?_
      refine G_region ?_
      refine W_run 3 [(2, .int .i64 out6455), (3, .bool true)] w6462 (by kernel_rfl) ?_
      refine W_nil ?_
      refine N_then ?_
      refine G_ret ?_
      obtain rfl := Option.some.inj hm
      refine N_ret [.int .i64 out6455, .bool true] (RVs_cons (RV_tmp (by kernel_rfl)) (RVs_cons (RV_tmp (by kernel_rfl)) RVs_nil)) ?_
      exact ⟨rfl, M6463.pick [] (by kernel_rfl)⟩
end Go.Proofs.Ytphinfkojhecdaa
