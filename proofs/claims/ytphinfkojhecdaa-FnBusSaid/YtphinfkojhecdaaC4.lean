/- The walks, printed by program: whenever the model gives r, the call returns r. Part 4. -/
import Derived.Test.YtphinfkojhecdaaM
import Derived.Test.YtphinfkojhecdaaProg
import Derived.Test.YtphinfkojhecdaaC3
set_option linter.unusedVariables false
set_option maxRecDepth 100000
set_option maxHeartbeats 4000000
namespace Go.Proofs.Ytphinfkojhecdaa
open Go.Gx
theorem c_slices_symMergeCmpFunc_97__i_asMap_1 (fuel_ : Nat) : ∀ (w : World) (x4964 : List Region) (p4966 : Option Addr) (c4967 : Nat) (sg4968 : Seg) (ho4969 : ownS encRegion x4964 p4966 c4967 sg4968) (x4970 : Int) (x4971 : Int) (x4972 : Int) (hA : ∀ q ∈ List.flatten [sg4968], w.heap[q.1]? = some q.2) (hN : (idsOf [sg4968]).Nodup) {r : (List Region)} (hm : M.slices_symMergeCmpFunc_97__i_asMap_1 fuel_ x4964 x4970 x4971 x4972 = some r),
    Calls Try.prog 97 #[.slice p4966 x4964.length c4967, .int .i64 x4970, .int .i64 x4971, .int .i64 x4972, .func (.func 90) #[] #[]] w fun e w' => ∃ (sg4973 : Seg), e = .returned (.tuple #[]) ∧ ownS encRegion r p4966 c4967 sg4973 ∧ r.length = x4964.length ∧ Mem (idsOf [sg4968]) w w' [sg4973] := by
  induction fuel_ with
  | zero =>
    intro w x4964 p4966 c4967 sg4968 ho4969 x4970 x4971 x4972 hA hN r hm
    unfold M.slices_symMergeCmpFunc_97__i_asMap_1 at hm
    cases hm
  | succ n_ ih_ =>
    intro w x4964 p4966 c4967 sg4968 ho4969 x4970 x4971 x4972 hA hN r hm
    unfold M.slices_symMergeCmpFunc_97__i_asMap_1 at hm
    refine C_enter Try.func97 rfl (by kernel_rfl) ?_
    have M0 := Mem.start' w [sg4968] hA hN
    refine G_seq ?_
    refine G_seq ?_
    refine G_region ?_
    refine W_run 4 [(0, .slice p4966 x4964.length c4967), (1, .int .i64 x4970), (2, .int .i64 x4971), (3, .int .i64 x4972), (4, .func (.func 90) #[] #[]), (28, .bool ((w64 (x4971 - x4970)) == 1))] w (by kernel_rfl) ?_
    refine W_nil ?_
    refine N_then ?_
    rcases gx_bif hm with ⟨hc4974, hm⟩ | ⟨hc4974, hm⟩
    · refine G_cond_t (b := ((w64 (x4971 - x4970)) == 1)) hc4974 (by kernel_rfl) ?_
      refine G_seq ?_
      refine G_region ?_
      refine W_run 2 [(0, .slice p4966 x4964.length c4967), (1, .int .i64 x4970), (3, .int .i64 x4972), (4, .func (.func 90) #[] #[]), (10, .int .i64 x4971)] w (by kernel_rfl) ?_
      refine W_nil ?_
      refine N_then ?_
      refine G_seq ?_
      refine G_region ?_
      refine W_run 2 [(0, .slice p4966 x4964.length c4967), (1, .int .i64 x4970), (4, .func (.func 90) #[] #[]), (10, .int .i64 x4971), (11, .int .i64 x4972)] w (by kernel_rfl) ?_
      refine W_nil ?_
      refine N_then ?_
      refine G_seq ?_
      obtain ⟨out5018, hw5019, hmo5020⟩ := gx_bind hm
      refine G_meet (fun a w' => Mem (idsOf [sg4968]) w w' [sg4968] ∧ Sat Try.f97.ntmps [(0, .slice p4966 x4964.length c4967), (1, .int .i64 x4970), (10, .int .i64 out5018)] a) ?_ ?_
      · refine G_block ?_
        refine G_while (σ := Int × Int) (ρ := Int) (fun s5011 a w' => Mem (idsOf [sg4968]) w w' [sg4968] ∧ Sat Try.f97.ntmps [(0, .slice p4966 x4964.length c4967), (1, .int .i64 x4970), (4, .func (.func 90) #[] #[]), (10, .int .i64 s5011.1), (11, .int .i64 s5011.2)] a) hw5019 (fun a ha => ⟨M0.pick [0] (by kernel_rfl), ha.sub (by kernel_rfl)⟩) ?_
        clear hm
        intro s5011 x5012 hm hout5013 a5014 w5015 ⟨M5016, hS5017⟩
        refine G_use hS5017 ?_
        refine G_seq ?_
        refine G_seq ?_
        refine G_region ?_
        refine W_run 3 [(0, .slice p4966 x4964.length c4967), (1, .int .i64 x4970), (4, .func (.func 90) #[] #[]), (10, .int .i64 s5011.1), (11, .int .i64 s5011.2), (33, .bool (decide (s5011.1 < s5011.2)))] w5015 (by kernel_rfl) ?_
        refine W_nil ?_
        refine N_then ?_
        rcases gx_bif hm with ⟨hc5022, hm⟩ | ⟨hc5022, hm⟩
        · refine G_cond_t (b := (decide (s5011.1 < s5011.2))) hc5022 (by kernel_rfl) ?_
          refine G_skip ?_
          refine N_then ?_
          refine G_block ?_
          refine G_seq ?_
          refine G_region ?_
          refine W_run 7 [(0, .slice p4966 x4964.length c4967), (1, .int .i64 x4970), (4, .func (.func 90) #[] #[]), (10, .int .i64 s5011.1), (11, .int .i64 s5011.2), (12, .int .i64 (w64 ((IntKind.u64.wrap (w64 (s5011.1 + s5011.2))).fdiv (2 ^ 1))))] w5015 (by kernel_rfl) ?_
          refine W_nil ?_
          refine N_then ?_
          refine G_seq ?_
          refine G_quiet (by kernel_rfl) (by kernel_rfl) M5016 ?_
          refine Z_runs [.func (.func 90) #[] #[], .slice p4966 x4964.length c4967, .int .i64 (w64 ((IntKind.u64.wrap (w64 (s5011.1 + s5011.2))).fdiv (2 ^ 1)))] [(0, .slice p4966 x4964.length c4967), (1, .int .i64 x4970), (4, .func (.func 90) #[] #[]), (10, .int .i64 s5011.1), (11, .int .i64 s5011.2), (12, .int .i64 (w64 ((IntKind.u64.wrap (w64 (s5011.1 + s5011.2))).fdiv (2 ^ 1)))), (40, .func (.func 90) #[] #[]), (41, .slice p4966 x4964.length c4967), (42, .int .i64 (w64 ((IntKind.u64.wrap (w64 (s5011.1 + s5011.2))).fdiv (2 ^ 1))))] (fun w_ => by kernel_rfl) (by kernel_rfl) ?_
          obtain ⟨y5023, hy5023, hm⟩ := gx_bind hm
          refine Z_val (elemP p4966 ((w64 ((IntKind.u64.wrap (w64 (s5011.1 + s5011.2))).fdiv (2 ^ 1))).toNat * 4)) (by kernel_rfl) (fun w_ M_ => (E_index (E := encRegion) _ _ _ x4964.length c4967 .i64 (w64 ((IntKind.u64.wrap (w64 (s5011.1 + s5011.2))).fdiv (2 ^ 1))) 4 (y := y5023) rfl (by kernel_rfl) (by kernel_rfl) (by kernel_rfl) (ho4969.rd M_ 0 (by kernel_rfl)) rfl hy5023)) ?_
          refine Z_val (.agg #[.int .i64 y5023.Base, .int .i64 y5023.Size, .int .i64 y5023.Kind, .int .i64 y5023.Unit]) (by kernel_rfl) (fun w_ M_ => (E_loadE (E := encRegion) _ _ true 4 (w64 ((IntKind.u64.wrap (w64 (s5011.1 + s5011.2))).fdiv (2 ^ 1))) 0 ((w64 ((IntKind.u64.wrap (w64 (s5011.1 + s5011.2))).fdiv (2 ^ 1))).toNat * 4) y5023 (.agg #[.int .i64 y5023.Base, .int .i64 y5023.Size, .int .i64 y5023.Kind, .int .i64 y5023.Unit]) rfl (by kernel_rfl) (by kernel_rfl) (by kernel_rfl) (ho4969.rd M_ 0 (by kernel_rfl)) hy5023 rfl)) ?_
          refine Z_runs [.slice p4966 x4964.length c4967, .int .i64 x4970] [(0, .slice p4966 x4964.length c4967), (1, .int .i64 x4970), (4, .func (.func 90) #[] #[]), (10, .int .i64 s5011.1), (11, .int .i64 s5011.2), (12, .int .i64 (w64 ((IntKind.u64.wrap (w64 (s5011.1 + s5011.2))).fdiv (2 ^ 1)))), (40, .func (.func 90) #[] #[]), (44, .agg #[.int .i64 y5023.Base, .int .i64 y5023.Size, .int .i64 y5023.Kind, .int .i64 y5023.Unit]), (45, .slice p4966 x4964.length c4967), (46, .int .i64 x4970)] (fun w_ => by kernel_rfl) (by kernel_rfl) ?_
          obtain ⟨y5024, hy5024, hm⟩ := gx_bind hm
          refine Z_val (elemP p4966 (x4970.toNat * 4)) (by kernel_rfl) (fun w_ M_ => (E_index (E := encRegion) _ _ _ x4964.length c4967 .i64 x4970 4 (y := y5024) rfl (by kernel_rfl) (by kernel_rfl) (by kernel_rfl) (ho4969.rd M_ 0 (by kernel_rfl)) rfl hy5024)) ?_
          refine Z_val (.agg #[.int .i64 y5024.Base, .int .i64 y5024.Size, .int .i64 y5024.Kind, .int .i64 y5024.Unit]) (by kernel_rfl) (fun w_ M_ => (E_loadE (E := encRegion) _ _ true 4 x4970 0 (x4970.toNat * 4) y5024 (.agg #[.int .i64 y5024.Base, .int .i64 y5024.Size, .int .i64 y5024.Kind, .int .i64 y5024.Unit]) rfl (by kernel_rfl) (by kernel_rfl) (by kernel_rfl) (ho4969.rd M_ 0 (by kernel_rfl)) hy5024 rfl)) ?_
          obtain ⟨r5025, hr5025, hm⟩ := gx_bind hm
          refine Z_call 90 #[.agg #[.int .i64 y5023.Base, .int .i64 y5023.Size, .int .i64 y5023.Kind, .int .i64 y5023.Unit], .agg #[.int .i64 y5024.Base, .int .i64 y5024.Size, .int .i64 y5024.Kind, .int .i64 y5024.Unit]] (.int .i64 r5025) (by kernel_rfl) (fun w_ => by kernel_rfl) (fun w_ M_ => (c_i_asMap_1 w_ y5023 y5024 hr5025).mono fun e w2_ h_ => ⟨h_.1, M_.call0 h_.2⟩) ?_
          refine Z_runs [.bool (decide (r5025 < 0))] [(0, .slice p4966 x4964.length c4967), (1, .int .i64 x4970), (4, .func (.func 90) #[] #[]), (10, .int .i64 s5011.1), (11, .int .i64 s5011.2), (12, .int .i64 (w64 ((IntKind.u64.wrap (w64 (s5011.1 + s5011.2))).fdiv (2 ^ 1)))), (50, .bool (decide (r5025 < 0)))] (fun w_ => by kernel_rfl) (by kernel_rfl) ?_
          refine Z_end fun w5029 M5030 => ?_
          refine N_then ?_
          obtain ⟨o5032, ho5033, hm5034⟩ := gx_bind hm
          refine G_meet (fun a w' => Mem (idsOf [sg4968]) w w' [sg4968] ∧ Sat Try.f97.ntmps [(0, .slice p4966 x4964.length c4967), (1, .int .i64 x4970), (4, .func (.func 90) #[] #[]), (10, .int .i64 o5032.1), (11, .int .i64 o5032.2)] a) ?_ ?_
          · have hm := ho5033
            rcases gx_bif hm with ⟨hc5035, hm⟩ | ⟨hc5035, hm⟩
            · refine G_cond_t (b := (decide (r5025 < 0))) hc5035 (by kernel_rfl) ?_
              refine G_region ?_
              refine W_run 3 [(0, .slice p4966 x4964.length c4967), (1, .int .i64 x4970), (4, .func (.func 90) #[] #[]), (10, .int .i64 (w64 ((w64 ((IntKind.u64.wrap (w64 (s5011.1 + s5011.2))).fdiv (2 ^ 1))) + 1))), (11, .int .i64 s5011.2)] w5029 (by kernel_rfl) ?_
              refine W_nil ?_
              obtain rfl := Option.some.inj hm
              exact N_meet fun a ha => ⟨M5030.pick [0] (by kernel_rfl), ha.sub (by kernel_rfl)⟩
            · refine G_cond_f (b := (decide (r5025 < 0))) hc5035 (by kernel_rfl) ?_
              refine G_region ?_
              refine W_run 2 [(0, .slice p4966 x4964.length c4967), (1, .int .i64 x4970), (4, .func (.func 90) #[] #[]), (10, .int .i64 s5011.1), (11, .int .i64 (w64 ((IntKind.u64.wrap (w64 (s5011.1 + s5011.2))).fdiv (2 ^ 1))))] w5029 (by kernel_rfl) ?_
              refine W_nil ?_
              obtain rfl := Option.some.inj hm
              exact N_meet fun a ha => ⟨M5030.pick [0] (by kernel_rfl), ha.sub (by kernel_rfl)⟩
          · intro a5038 w5036 ⟨M5037, hS5039⟩
            refine N_use hS5039 ?_
            have hm := hm5034
            refine N_block ?_
            obtain rfl := Option.some.inj hm
            exact N_loop fun a ha => ⟨_, rfl, M5037.pick [0] (by kernel_rfl), ha.sub (by kernel_rfl)⟩
        · refine G_cond_f (b := (decide (s5011.1 < s5011.2))) hc5022 (by kernel_rfl) ?_
          refine G_exit ?_
          refine N_then_exit ?_
          refine N_then_exit ?_
          refine N_block_eq ?_
          obtain rfl := Option.some.inj hm
          obtain rfl := hout5013 _ rfl
          exact N_meet fun a ha => ⟨M5016.pick [0] (by kernel_rfl), ha.sub (by kernel_rfl)⟩
      · intro a5040 w5041 ⟨M5042, hS5043⟩
        refine N_use hS5043 ?_
        have hm := hmo5020
        refine N_then ?_
        refine G_seq ?_
        refine G_seq ?_
        refine G_region ?_
        refine W_run 2 [(0, .slice p4966 x4964.length c4967), (10, .int .i64 out5018), (13, .int .i64 x4970)] w5041 (by kernel_rfl) ?_
        refine W_nil ?_
        refine N_then ?_
        obtain ⟨out5218, hw5219, hmo5220⟩ := gx_bind hm
        refine G_meet (fun a w' => ∃ (sg5225 : Seg), ownS encRegion out5218 p4966 c4967 sg5225 ∧ out5218.length = x4964.length ∧ Mem (idsOf [sg4968]) w w' [sg5225] ∧ Sat Try.f97.ntmps [] a) ?_ ?_
        · refine G_block ?_
          refine G_while (σ := Int × List Region) (ρ := List Region) (fun s5211 a w' => ∃ (sg5221 : Seg), ownS encRegion s5211.2 p4966 c4967 sg5221 ∧ s5211.2.length = x4964.length ∧ Mem (idsOf [sg4968]) w w' [sg5221] ∧ Sat Try.f97.ntmps [(0, .slice p4966 s5211.2.length c4967), (10, .int .i64 out5018), (13, .int .i64 s5211.1)] a) hw5219 (fun a ha => ⟨sg4968, ho4969, rfl, M5042.pick [0] (by kernel_rfl), ha.sub (by kernel_rfl)⟩) ?_
          clear hm
          intro s5211 x5212 hm hout5213 a5214 w5215 ⟨sg5221, ho5222, hl5223, M5216, hS5217⟩
          refine G_use hS5217 ?_
          refine G_seq ?_
          refine G_seq ?_
          refine G_region ?_
          refine W_run 4 [(0, .slice p4966 s5211.2.length c4967), (10, .int .i64 out5018), (13, .int .i64 s5211.1), (58, .bool (decide (s5211.1 < (w64 (out5018 - 1)))))] w5215 (by kernel_rfl) ?_
          refine W_nil ?_
          refine N_then ?_
          rcases gx_bif hm with ⟨hc5228, hm⟩ | ⟨hc5228, hm⟩
          · refine G_cond_t (b := (decide (s5211.1 < (w64 (out5018 - 1))))) hc5228 (by kernel_rfl) ?_
            refine G_skip ?_
            refine N_then ?_
            refine G_seq ?_
            refine G_block ?_
            obtain ⟨y5231, hy5231, hm⟩ := gx_bind hm
            obtain ⟨y5232, hy5232, hm⟩ := gx_bind hm
            obtain ⟨y5233, hy5233, hm⟩ := gx_bind hm
            have M5235 : Mem (idsOf [sg4968]) w w5215 ([] ++ (List.range 16).map (fun i => ([[], [], [], [], [], [], [], [], [], [], [], [], [], [], [], sg5221] : List Seg).getD i [])) := M5216.pick [300000, 300001, 300002, 300003, 300004, 300005, 300006, 300007, 300008, 300009, 300010, 300011, 300012, 300013, 300014, 0] (by kernel_rfl)
            refine G_sub [(0, .slice p4966 s5211.2.length c4967), (10, .int .i64 out5018), (13, .int .i64 s5211.1), (58, .bool (decide (s5211.1 < (w64 (out5018 - 1)))))] (by kernel_rfl) ?_
            refine G_dagL 16 [[], [], [], [], [3], [], [], [6], [5, 7], [8], [], [], [10, 11], [12], [0, 1], [9, 14]] [[], [], [], [], [], [], [], [], [], [], [], [], [], [], [], []] [[], [], [], [], [], [], [], [], [], [], [], [], [], [], [], []] [[], [], [], [], [], [], [], [], [], [], [], [], [], [], [], []] [[], [], [], [], [], [], [], [], [], [], [], [], [], [], [], []] [[], [], [], [], [], [], [], [], [15], [15], [], [], [15], [15], [15], []] (fun i => ([[], [], [], [], [], [], [], [], [], [], [], [], [], [], [], sg5221] : List Seg).getD i []) (fun i => ([fun f v s => v = (.slice p4966 s5211.2.length c4967 : Value) ∧ s = [], fun f v s => v = (.int .i64 s5211.1 : Value) ∧ s = [], fun f v s => v = (.slice p4966 s5211.2.length c4967 : Value) ∧ s = [], fun f v s => v = (.int .i64 s5211.1 : Value) ∧ s = [], fun f v s => v = (.int .i64 (w64 (s5211.1 + 1)) : Value) ∧ s = [], fun f v s => v = (.slice p4966 s5211.2.length c4967 : Value) ∧ s = [], fun f v s => v = (.int .i64 s5211.1 : Value) ∧ s = [], fun f v s => v = (.int .i64 (w64 (s5211.1 + 1)) : Value) ∧ s = [], fun f v s => v = (elemP p4966 ((w64 (s5211.1 + 1)).toNat * 4) : Value) ∧ s = [], fun f v s => v = (.agg #[.int .i64 y5231.Base, .int .i64 y5231.Size, .int .i64 y5231.Kind, .int .i64 y5231.Unit] : Value) ∧ s = [], fun f v s => v = (.slice p4966 s5211.2.length c4967 : Value) ∧ s = [], fun f v s => v = (.int .i64 s5211.1 : Value) ∧ s = [], fun f v s => v = (elemP p4966 (s5211.1.toNat * 4) : Value) ∧ s = [], fun f v s => v = (.agg #[.int .i64 y5232.Base, .int .i64 y5232.Size, .int .i64 y5232.Kind, .int .i64 y5232.Unit] : Value) ∧ s = [], fun f v s => v = (elemP p4966 (s5211.1.toNat * 4) : Value) ∧ s = [], fun f v s => v = undef ∧ ownS encRegion (s5211.2.set s5211.1.toNat y5231) p4966 c4967 s] : List ((Nat → Value) → Value → Seg → Prop)).getD i (fun _ _ _ => False)) (fun j f v => ∃ s, (fun i => ([fun f v s => v = (.slice p4966 s5211.2.length c4967 : Value) ∧ s = [], fun f v s => v = (.int .i64 s5211.1 : Value) ∧ s = [], fun f v s => v = (.slice p4966 s5211.2.length c4967 : Value) ∧ s = [], fun f v s => v = (.int .i64 s5211.1 : Value) ∧ s = [], fun f v s => v = (.int .i64 (w64 (s5211.1 + 1)) : Value) ∧ s = [], fun f v s => v = (.slice p4966 s5211.2.length c4967 : Value) ∧ s = [], fun f v s => v = (.int .i64 s5211.1 : Value) ∧ s = [], fun f v s => v = (.int .i64 (w64 (s5211.1 + 1)) : Value) ∧ s = [], fun f v s => v = (elemP p4966 ((w64 (s5211.1 + 1)).toNat * 4) : Value) ∧ s = [], fun f v s => v = (.agg #[.int .i64 y5231.Base, .int .i64 y5231.Size, .int .i64 y5231.Kind, .int .i64 y5231.Unit] : Value) ∧ s = [], fun f v s => v = (.slice p4966 s5211.2.length c4967 : Value) ∧ s = [], fun f v s => v = (.int .i64 s5211.1 : Value) ∧ s = [], fun f v s => v = (elemP p4966 (s5211.1.toNat * 4) : Value) ∧ s = [], fun f v s => v = (.agg #[.int .i64 y5232.Base, .int .i64 y5232.Size, .int .i64 y5232.Kind, .int .i64 y5232.Unit] : Value) ∧ s = [], fun f v s => v = (elemP p4966 (s5211.1.toNat * 4) : Value) ∧ s = [], fun f v s => v = undef ∧ ownS encRegion (s5211.2.set s5211.1.toNat y5231) p4966 c4967 s] : List ((Nat → Value) → Value → Seg → Prop)).getD i (fun _ _ _ => False)) j f v s) [] [2, 4, 13, 15] [15] (fun _ _ _ s h => ⟨s, h⟩) (by kernel_rfl) (by kernel_rfl) M5235 (by kernel_rfl) (by kernel_rfl) (by kernel_rfl) (by kernel_rfl) (allOb_cons ?_ (allOb_cons ?_ (allOb_cons ?_ (allOb_cons ?_ (allOb_cons ?_ (allOb_cons ?_ (allOb_cons ?_ (allOb_cons ?_ (allOb_cons ?_ (allOb_cons ?_ (allOb_cons ?_ (allOb_cons ?_ (allOb_cons ?_ (allOb_cons ?_ (allOb_cons ?_ (allOb_cons ?_ allOb_nil)))))))))))))))) ?_
            · intro g5229 f5230
              intro R w5236 M5237
              refine W_run 1 [(61, .slice p4966 s5211.2.length c4967)] w5236 (by kernel_rfl) ?_
              exact W_nil (ob_end (.slice p4966 s5211.2.length c4967) [] rfl (by kernel_rfl) ⟨by kernel_rfl, rfl⟩ M5237)
            · intro g5229 f5230
              intro R w5240 M5241
              refine W_run 1 [(62, .int .i64 s5211.1)] w5240 (by kernel_rfl) ?_
              exact W_nil (ob_end (.int .i64 s5211.1) [] rfl (by kernel_rfl) ⟨by kernel_rfl, rfl⟩ M5241)
            · intro g5229 f5230
              intro R w5244 M5245
              refine W_run 1 [(63, .slice p4966 s5211.2.length c4967)] w5244 (by kernel_rfl) ?_
              exact W_nil (ob_end (.slice p4966 s5211.2.length c4967) [] rfl (by kernel_rfl) ⟨by kernel_rfl, rfl⟩ M5245)
            · intro g5229 f5230
              intro R w5248 M5249
              refine W_run 1 [(64, .int .i64 s5211.1)] w5248 (by kernel_rfl) ?_
              exact W_nil (ob_end (.int .i64 s5211.1) [] rfl (by kernel_rfl) ⟨by kernel_rfl, rfl⟩ M5249)
            · intro g5229 f5230
              intro v3_ hb3_
              obtain ⟨rfl, _⟩ := hb3_
              intro R w5252 M5253
              refine W_run 1 [(65, .int .i64 (w64 (s5211.1 + 1)))] w5252 (by kernel_rfl) ?_
              exact W_nil (ob_end (.int .i64 (w64 (s5211.1 + 1))) [] rfl (by kernel_rfl) ⟨by kernel_rfl, rfl⟩ M5253)
            · intro g5229 f5230
              intro R w5256 M5257
              refine W_run 1 [(66, .slice p4966 s5211.2.length c4967)] w5256 (by kernel_rfl) ?_
              exact W_nil (ob_end (.slice p4966 s5211.2.length c4967) [] rfl (by kernel_rfl) ⟨by kernel_rfl, rfl⟩ M5257)
            · intro g5229 f5230
              intro R w5260 M5261
              refine W_run 1 [(67, .int .i64 s5211.1)] w5260 (by kernel_rfl) ?_
              exact W_nil (ob_end (.int .i64 s5211.1) [] rfl (by kernel_rfl) ⟨by kernel_rfl, rfl⟩ M5261)
            · intro g5229 f5230
              intro v6_ hb6_
              obtain ⟨rfl, _⟩ := hb6_
              intro R w5264 M5265
              refine W_run 1 [(68, .int .i64 (w64 (s5211.1 + 1)))] w5264 (by kernel_rfl) ?_
              exact W_nil (ob_end (.int .i64 (w64 (s5211.1 + 1))) [] rfl (by kernel_rfl) ⟨by kernel_rfl, rfl⟩ M5265)
            · intro g5229 f5230
              intro v5_ hb5_
              obtain ⟨rfl, _⟩ := hb5_
              intro v7_ hb7_
              obtain ⟨rfl, _⟩ := hb7_
              intro R w5268 M5269
              refine W_val (elemP p4966 ((w64 (s5211.1 + 1)).toNat * 4)) w5268 (by kernel_rfl) (E_index (E := encRegion) _ _ _ s5211.2.length c4967 .i64 (w64 (s5211.1 + 1)) 4 (y := y5231) rfl (by kernel_rfl) (by kernel_rfl) (by kernel_rfl) (ho5222.rd M5269 1 (by kernel_rfl)) rfl hy5231) ?_
              exact W_nil (ob_end (elemP p4966 ((w64 (s5211.1 + 1)).toNat * 4)) [] rfl (by kernel_rfl) ⟨by kernel_rfl, rfl⟩ M5269)
            · intro g5229 f5230
              intro v8_ hb8_
              obtain ⟨rfl, _⟩ := hb8_
              intro R w5272 M5273
              refine W_val (.agg #[.int .i64 y5231.Base, .int .i64 y5231.Size, .int .i64 y5231.Kind, .int .i64 y5231.Unit]) w5272 (by kernel_rfl) (E_loadE (E := encRegion) _ _ true 4 (w64 (s5211.1 + 1)) 0 ((w64 (s5211.1 + 1)).toNat * 4) y5231 (.agg #[.int .i64 y5231.Base, .int .i64 y5231.Size, .int .i64 y5231.Kind, .int .i64 y5231.Unit]) rfl (by kernel_rfl) (by kernel_rfl) (by kernel_rfl) (ho5222.rd M5273 1 (by kernel_rfl)) hy5231 rfl) ?_
              exact W_nil (ob_end (.agg #[.int .i64 y5231.Base, .int .i64 y5231.Size, .int .i64 y5231.Kind, .int .i64 y5231.Unit]) [] rfl (by kernel_rfl) ⟨by kernel_rfl, rfl⟩ M5273)
            · intro g5229 f5230
              intro R w5276 M5277
              refine W_run 1 [(71, .slice p4966 s5211.2.length c4967)] w5276 (by kernel_rfl) ?_
              exact W_nil (ob_end (.slice p4966 s5211.2.length c4967) [] rfl (by kernel_rfl) ⟨by kernel_rfl, rfl⟩ M5277)
            · intro g5229 f5230
              intro R w5280 M5281
              refine W_run 1 [(72, .int .i64 s5211.1)] w5280 (by kernel_rfl) ?_
              exact W_nil (ob_end (.int .i64 s5211.1) [] rfl (by kernel_rfl) ⟨by kernel_rfl, rfl⟩ M5281)
            · intro g5229 f5230
              intro v10_ hb10_
              obtain ⟨rfl, _⟩ := hb10_
              intro v11_ hb11_
              obtain ⟨rfl, _⟩ := hb11_
              intro R w5284 M5285
              refine W_val (elemP p4966 (s5211.1.toNat * 4)) w5284 (by kernel_rfl) (E_index (E := encRegion) _ _ _ s5211.2.length c4967 .i64 s5211.1 4 (y := y5232) rfl (by kernel_rfl) (by kernel_rfl) (by kernel_rfl) (ho5222.rd M5285 1 (by kernel_rfl)) rfl hy5232) ?_
              exact W_nil (ob_end (elemP p4966 (s5211.1.toNat * 4)) [] rfl (by kernel_rfl) ⟨by kernel_rfl, rfl⟩ M5285)
            · intro g5229 f5230
              intro v12_ hb12_
              obtain ⟨rfl, _⟩ := hb12_
              intro R w5288 M5289
              refine W_val (.agg #[.int .i64 y5232.Base, .int .i64 y5232.Size, .int .i64 y5232.Kind, .int .i64 y5232.Unit]) w5288 (by kernel_rfl) (E_loadE (E := encRegion) _ _ true 4 s5211.1 0 (s5211.1.toNat * 4) y5232 (.agg #[.int .i64 y5232.Base, .int .i64 y5232.Size, .int .i64 y5232.Kind, .int .i64 y5232.Unit]) rfl (by kernel_rfl) (by kernel_rfl) (by kernel_rfl) (ho5222.rd M5289 1 (by kernel_rfl)) hy5232 rfl) ?_
              exact W_nil (ob_end (.agg #[.int .i64 y5232.Base, .int .i64 y5232.Size, .int .i64 y5232.Kind, .int .i64 y5232.Unit]) [] rfl (by kernel_rfl) ⟨by kernel_rfl, rfl⟩ M5289)
            · intro g5229 f5230
              intro v0_ hb0_
              obtain ⟨rfl, _⟩ := hb0_
              intro v1_ hb1_
              obtain ⟨rfl, _⟩ := hb1_
              intro R w5292 M5293
              refine W_val (elemP p4966 (s5211.1.toNat * 4)) w5292 (by kernel_rfl) (E_index (E := encRegion) _ _ _ s5211.2.length c4967 .i64 s5211.1 4 (y := y5233) rfl (by kernel_rfl) (by kernel_rfl) (by kernel_rfl) (ho5222.rd M5293 1 (by kernel_rfl)) rfl hy5233) ?_
              exact W_nil (ob_end (elemP p4966 (s5211.1.toNat * 4)) [] rfl (by kernel_rfl) ⟨by kernel_rfl, rfl⟩ M5293)
            · intro g5229 f5230
              intro v9_ hb9_
              obtain ⟨rfl, _⟩ := hb9_
              intro v14_ hb14_
              obtain ⟨rfl, _⟩ := hb14_
              intro R w5296 M5297
              refine W_storeE (E := encRegion) _ _ _ true 4 s5211.1.toNat 0 (s5211.1.toNat * 4) y5233 y5231 (.agg #[.int .i64 y5231.Base, .int .i64 y5231.Size, .int .i64 y5231.Kind, .int .i64 y5231.Unit]) 0 M5297 ho5222 (by kernel_rfl) (by kernel_rfl) rfl (by kernel_rfl) (by kernel_rfl) (by kernel_rfl) (by kernel_rfl) (by kernel_rfl) (by kernel_rfl) (by kernel_rfl) (gxIdx_spec hy5233).2 rfl ?_
              intro w5298 sg5300 ho5301 M5299
              exact W_nil (ob_none sg5300 rfl ⟨rfl, ho5301⟩ M5299)
            · intro g5229 f5230
              intro v2_ hb2_
              obtain ⟨rfl, _⟩ := hb2_
              intro v4_ hb4_
              obtain ⟨rfl, _⟩ := hb4_
              intro v13_ hb13_
              obtain ⟨rfl, _⟩ := hb13_
              intro v15_ hb15_
              obtain ⟨rfl, ho5234⟩ := hb15_
              intro w5302 M5303
              have M5304 : Mem (idsOf [sg4968]) w w5302 [(g5229 15)] := M5303
              refine W_conv 0 (.slice p4966 s5211.2.length c4967) (.slice p4966 (s5211.2.set s5211.1.toNat y5231).length c4967) (by kernel_rfl) (by rw [@List.length_set _ s5211.2 s5211.1.toNat y5231]) ?_
              refine W_conv 63 (.slice p4966 s5211.2.length c4967) (.slice p4966 (s5211.2.set s5211.1.toNat y5231).length c4967) (by kernel_rfl) (by rw [@List.length_set _ s5211.2 s5211.1.toNat y5231]) ?_
              obtain ⟨y5305, hy5305, hm⟩ := gx_bind hm
              refine W_val (elemP p4966 ((w64 (s5211.1 + 1)).toNat * 4)) w5302 (by kernel_rfl) (E_index (E := encRegion) _ _ _ (s5211.2.set s5211.1.toNat y5231).length c4967 .i64 (w64 (s5211.1 + 1)) 4 (y := y5305) rfl (by kernel_rfl) (by kernel_rfl) (by kernel_rfl) (ho5234.rd M5304 0 (by kernel_rfl)) rfl hy5305) ?_
              refine W_storeE (E := encRegion) _ _ _ true 4 (w64 (s5211.1 + 1)).toNat 0 ((w64 (s5211.1 + 1)).toNat * 4) y5305 y5232 (.agg #[.int .i64 y5232.Base, .int .i64 y5232.Size, .int .i64 y5232.Kind, .int .i64 y5232.Unit]) 0 M5304 ho5234 (by kernel_rfl) (by kernel_rfl) rfl (by kernel_rfl) (by kernel_rfl) (by kernel_rfl) (by kernel_rfl) (by kernel_rfl) (by kernel_rfl) (by kernel_rfl) (gxIdx_spec hy5305).2 rfl ?_
              intro w5306 sg5308 ho5309 M5307
              refine W_conv 0 (.slice p4966 (s5211.2.set s5211.1.toNat y5231).length c4967) (.slice p4966 ((s5211.2.set s5211.1.toNat y5231).set (w64 (s5211.1 + 1)).toNat y5232).length c4967) (by kernel_rfl) (by rw [@List.length_set _ (s5211.2.set s5211.1.toNat y5231) ((w64 (s5211.1 + 1)).toNat) y5232]) ?_
              refine W_conv 63 (.slice p4966 (s5211.2.set s5211.1.toNat y5231).length c4967) (.slice p4966 ((s5211.2.set s5211.1.toNat y5231).set (w64 (s5211.1 + 1)).toNat y5232).length c4967) (by kernel_rfl) (by rw [@List.length_set _ (s5211.2.set s5211.1.toNat y5231) ((w64 (s5211.1 + 1)).toNat) y5232]) ?_
              refine W_nil ?_
              refine N_block ?_
              refine N_then ?_
              refine G_region ?_
              refine W_run 3 [(0, .slice p4966 ((s5211.2.set s5211.1.toNat y5231).set (w64 (s5211.1 + 1)).toNat y5232).length c4967), (10, .int .i64 out5018), (13, .int .i64 (w64 (s5211.1 + 1)))] w5306 (by kernel_rfl) ?_
              refine W_nil ?_
              obtain rfl := Option.some.inj hm
              exact N_loop fun a ha => ⟨_, rfl, sg5308, ho5309, (List.length_set.trans (List.length_set.trans hl5223)), M5307.pick [0] (by kernel_rfl), ha.sub (by kernel_rfl)⟩
          · refine G_cond_f (b := (decide (s5211.1 < (w64 (out5018 - 1))))) hc5228 (by kernel_rfl) ?_
            refine G_exit ?_
            refine N_then_exit ?_
            refine N_then_exit ?_
            refine N_block_eq ?_
            obtain rfl := Option.some.inj hm
            obtain rfl := hout5213 _ rfl
            exact N_meet fun a ha => ⟨sg5221, ho5222, hl5223, M5216.pick [0] (by kernel_rfl), ha.sub (by kernel_rfl)⟩
        · intro a5310 w5311 ⟨sg5225, ho5226, hl5227, M5312, hS5313⟩
          refine N_use hS5313 ?_
          have hm := hmo5220
          refine N_then ?_
          refine G_ret ?_
          refine N_then_ret ?_
          obtain rfl := Option.some.inj hm
          refine N_ret [] (RVs_nil) ?_
          exact ⟨sg5225, rfl, ho5226, hl5227, M5312.pick [0] (by kernel_rfl)⟩
    · refine G_cond_f (b := ((w64 (x4971 - x4970)) == 1)) hc4974 (by kernel_rfl) ?_
      refine G_skip ?_
      refine N_then ?_
      refine G_seq ?_
      refine G_seq ?_
      refine G_region ?_
      refine W_run 4 [(0, .slice p4966 x4964.length c4967), (1, .int .i64 x4970), (2, .int .i64 x4971), (3, .int .i64 x4972), (4, .func (.func 90) #[] #[]), (80, .bool ((w64 (x4972 - x4971)) == 1))] w (by kernel_rfl) ?_
      refine W_nil ?_
      refine N_then ?_
      rcases gx_bif hm with ⟨hc5314, hm⟩ | ⟨hc5314, hm⟩
      · refine G_cond_t (b := ((w64 (x4972 - x4971)) == 1)) hc5314 (by kernel_rfl) ?_
        refine G_seq ?_
        refine G_region ?_
        refine W_run 2 [(0, .slice p4966 x4964.length c4967), (2, .int .i64 x4971), (4, .func (.func 90) #[] #[]), (14, .int .i64 x4970)] w (by kernel_rfl) ?_
        refine W_nil ?_
        refine N_then ?_
        refine G_seq ?_
        refine G_region ?_
        refine W_run 2 [(0, .slice p4966 x4964.length c4967), (2, .int .i64 x4971), (4, .func (.func 90) #[] #[]), (14, .int .i64 x4970), (15, .int .i64 x4971)] w (by kernel_rfl) ?_
        refine W_nil ?_
        refine N_then ?_
        refine G_seq ?_
        obtain ⟨out5358, hw5359, hmo5360⟩ := gx_bind hm
        refine G_meet (fun a w' => Mem (idsOf [sg4968]) w w' [sg4968] ∧ Sat Try.f97.ntmps [(0, .slice p4966 x4964.length c4967), (2, .int .i64 x4971), (14, .int .i64 out5358)] a) ?_ ?_
        · refine G_block ?_
          refine G_while (σ := Int × Int) (ρ := Int) (fun s5351 a w' => Mem (idsOf [sg4968]) w w' [sg4968] ∧ Sat Try.f97.ntmps [(0, .slice p4966 x4964.length c4967), (2, .int .i64 x4971), (4, .func (.func 90) #[] #[]), (14, .int .i64 s5351.1), (15, .int .i64 s5351.2)] a) hw5359 (fun a ha => ⟨M0.pick [0] (by kernel_rfl), ha.sub (by kernel_rfl)⟩) ?_
          clear hm
          intro s5351 x5352 hm hout5353 a5354 w5355 ⟨M5356, hS5357⟩
          refine G_use hS5357 ?_
          refine G_seq ?_
          refine G_seq ?_
          refine G_region ?_
          refine W_run 3 [(0, .slice p4966 x4964.length c4967), (2, .int .i64 x4971), (4, .func (.func 90) #[] #[]), (14, .int .i64 s5351.1), (15, .int .i64 s5351.2), (85, .bool (decide (s5351.1 < s5351.2)))] w5355 (by kernel_rfl) ?_
          refine W_nil ?_
          refine N_then ?_
          rcases gx_bif hm with ⟨hc5362, hm⟩ | ⟨hc5362, hm⟩
          · refine G_cond_t (b := (decide (s5351.1 < s5351.2))) hc5362 (by kernel_rfl) ?_
            refine G_skip ?_
            refine N_then ?_
            refine G_block ?_
            refine G_seq ?_
            refine G_region ?_
            refine W_run 7 [(0, .slice p4966 x4964.length c4967), (2, .int .i64 x4971), (4, .func (.func 90) #[] #[]), (14, .int .i64 s5351.1), (15, .int .i64 s5351.2), (16, .int .i64 (w64 ((IntKind.u64.wrap (w64 (s5351.1 + s5351.2))).fdiv (2 ^ 1))))] w5355 (by kernel_rfl) ?_
            refine W_nil ?_
            refine N_then ?_
            refine G_seq ?_
            refine G_quiet (by kernel_rfl) (by kernel_rfl) M5356 ?_
            refine Z_runs [.func (.func 90) #[] #[], .slice p4966 x4964.length c4967, .int .i64 x4971] [(0, .slice p4966 x4964.length c4967), (2, .int .i64 x4971), (4, .func (.func 90) #[] #[]), (14, .int .i64 s5351.1), (15, .int .i64 s5351.2), (16, .int .i64 (w64 ((IntKind.u64.wrap (w64 (s5351.1 + s5351.2))).fdiv (2 ^ 1)))), (92, .func (.func 90) #[] #[]), (93, .slice p4966 x4964.length c4967), (94, .int .i64 x4971)] (fun w_ => by kernel_rfl) (by kernel_rfl) ?_
            obtain ⟨y5363, hy5363, hm⟩ := gx_bind hm
            refine Z_val (elemP p4966 (x4971.toNat * 4)) (by kernel_rfl) (fun w_ M_ => (E_index (E := encRegion) _ _ _ x4964.length c4967 .i64 x4971 4 (y := y5363) rfl (by kernel_rfl) (by kernel_rfl) (by kernel_rfl) (ho4969.rd M_ 0 (by kernel_rfl)) rfl hy5363)) ?_
            refine Z_val (.agg #[.int .i64 y5363.Base, .int .i64 y5363.Size, .int .i64 y5363.Kind, .int .i64 y5363.Unit]) (by kernel_rfl) (fun w_ M_ => (E_loadE (E := encRegion) _ _ true 4 x4971 0 (x4971.toNat * 4) y5363 (.agg #[.int .i64 y5363.Base, .int .i64 y5363.Size, .int .i64 y5363.Kind, .int .i64 y5363.Unit]) rfl (by kernel_rfl) (by kernel_rfl) (by kernel_rfl) (ho4969.rd M_ 0 (by kernel_rfl)) hy5363 rfl)) ?_
            refine Z_runs [.slice p4966 x4964.length c4967, .int .i64 (w64 ((IntKind.u64.wrap (w64 (s5351.1 + s5351.2))).fdiv (2 ^ 1)))] [(0, .slice p4966 x4964.length c4967), (2, .int .i64 x4971), (4, .func (.func 90) #[] #[]), (14, .int .i64 s5351.1), (15, .int .i64 s5351.2), (16, .int .i64 (w64 ((IntKind.u64.wrap (w64 (s5351.1 + s5351.2))).fdiv (2 ^ 1)))), (92, .func (.func 90) #[] #[]), (96, .agg #[.int .i64 y5363.Base, .int .i64 y5363.Size, .int .i64 y5363.Kind, .int .i64 y5363.Unit]), (97, .slice p4966 x4964.length c4967), (98, .int .i64 (w64 ((IntKind.u64.wrap (w64 (s5351.1 + s5351.2))).fdiv (2 ^ 1))))] (fun w_ => by kernel_rfl) (by kernel_rfl) ?_
            obtain ⟨y5364, hy5364, hm⟩ := gx_bind hm
            refine Z_val (elemP p4966 ((w64 ((IntKind.u64.wrap (w64 (s5351.1 + s5351.2))).fdiv (2 ^ 1))).toNat * 4)) (by kernel_rfl) (fun w_ M_ => (E_index (E := encRegion) _ _ _ x4964.length c4967 .i64 (w64 ((IntKind.u64.wrap (w64 (s5351.1 + s5351.2))).fdiv (2 ^ 1))) 4 (y := y5364) rfl (by kernel_rfl) (by kernel_rfl) (by kernel_rfl) (ho4969.rd M_ 0 (by kernel_rfl)) rfl hy5364)) ?_
            refine Z_val (.agg #[.int .i64 y5364.Base, .int .i64 y5364.Size, .int .i64 y5364.Kind, .int .i64 y5364.Unit]) (by kernel_rfl) (fun w_ M_ => (E_loadE (E := encRegion) _ _ true 4 (w64 ((IntKind.u64.wrap (w64 (s5351.1 + s5351.2))).fdiv (2 ^ 1))) 0 ((w64 ((IntKind.u64.wrap (w64 (s5351.1 + s5351.2))).fdiv (2 ^ 1))).toNat * 4) y5364 (.agg #[.int .i64 y5364.Base, .int .i64 y5364.Size, .int .i64 y5364.Kind, .int .i64 y5364.Unit]) rfl (by kernel_rfl) (by kernel_rfl) (by kernel_rfl) (ho4969.rd M_ 0 (by kernel_rfl)) hy5364 rfl)) ?_
            obtain ⟨r5365, hr5365, hm⟩ := gx_bind hm
            refine Z_call 90 #[.agg #[.int .i64 y5363.Base, .int .i64 y5363.Size, .int .i64 y5363.Kind, .int .i64 y5363.Unit], .agg #[.int .i64 y5364.Base, .int .i64 y5364.Size, .int .i64 y5364.Kind, .int .i64 y5364.Unit]] (.int .i64 r5365) (by kernel_rfl) (fun w_ => by kernel_rfl) (fun w_ M_ => (c_i_asMap_1 w_ y5363 y5364 hr5365).mono fun e w2_ h_ => ⟨h_.1, M_.call0 h_.2⟩) ?_
            refine Z_runs [.bool (decide (r5365 < 0)), .bool (!(decide (r5365 < 0)))] [(0, .slice p4966 x4964.length c4967), (2, .int .i64 x4971), (4, .func (.func 90) #[] #[]), (14, .int .i64 s5351.1), (15, .int .i64 s5351.2), (16, .int .i64 (w64 ((IntKind.u64.wrap (w64 (s5351.1 + s5351.2))).fdiv (2 ^ 1)))), (103, .bool (!(decide (r5365 < 0))))] (fun w_ => by kernel_rfl) (by kernel_rfl) ?_
            refine Z_end fun w5369 M5370 => ?_
            refine N_then ?_
            obtain ⟨o5372, ho5373, hm5374⟩ := gx_bind hm
            refine G_meet (fun a w' => Mem (idsOf [sg4968]) w w' [sg4968] ∧ Sat Try.f97.ntmps [(0, .slice p4966 x4964.length c4967), (2, .int .i64 x4971), (4, .func (.func 90) #[] #[]), (14, .int .i64 o5372.1), (15, .int .i64 o5372.2)] a) ?_ ?_
            · have hm := ho5373
              rcases gx_bif hm with ⟨hc5375, hm⟩ | ⟨hc5375, hm⟩
              · refine G_cond_t (b := (!(decide (r5365 < 0)))) hc5375 (by kernel_rfl) ?_
                refine G_region ?_
                refine W_run 3 [(0, .slice p4966 x4964.length c4967), (2, .int .i64 x4971), (4, .func (.func 90) #[] #[]), (14, .int .i64 (w64 ((w64 ((IntKind.u64.wrap (w64 (s5351.1 + s5351.2))).fdiv (2 ^ 1))) + 1))), (15, .int .i64 s5351.2)] w5369 (by kernel_rfl) ?_
                refine W_nil ?_
                obtain rfl := Option.some.inj hm
                exact N_meet fun a ha => ⟨M5370.pick [0] (by kernel_rfl), ha.sub (by kernel_rfl)⟩
              · refine G_cond_f (b := (!(decide (r5365 < 0)))) hc5375 (by kernel_rfl) ?_
                refine G_region ?_
                refine W_run 2 [(0, .slice p4966 x4964.length c4967), (2, .int .i64 x4971), (4, .func (.func 90) #[] #[]), (14, .int .i64 s5351.1), (15, .int .i64 (w64 ((IntKind.u64.wrap (w64 (s5351.1 + s5351.2))).fdiv (2 ^ 1))))] w5369 (by kernel_rfl) ?_
                refine W_nil ?_
                obtain rfl := Option.some.inj hm
                exact N_meet fun a ha => ⟨M5370.pick [0] (by kernel_rfl), ha.sub (by kernel_rfl)⟩
            · intro a5378 w5376 ⟨M5377, hS5379⟩
              refine N_use hS5379 ?_
              have hm := hm5374
              refine N_block ?_
              obtain rfl := Option.some.inj hm
              exact N_loop fun a ha => ⟨_, rfl, M5377.pick [0] (by kernel_rfl), ha.sub (by kernel_rfl)⟩
          · refine G_cond_f (b := (decide (s5351.1 < s5351.2))) hc5362 (by kernel_rfl) ?_
            refine G_exit ?_
            refine N_then_exit ?_
            refine N_then_exit ?_
            refine N_block_eq ?_
            obtain rfl := Option.some.inj hm
            obtain rfl := hout5353 _ rfl
            exact N_meet fun a ha => ⟨M5356.pick [0] (by kernel_rfl), ha.sub (by kernel_rfl)⟩
        · intro a5380 w5381 ⟨M5382, hS5383⟩
          refine N_use hS5383 ?_
          have hm := hmo5360
          refine N_then ?_
          refine G_seq ?_
          refine G_seq ?_
          refine G_region ?_
          refine W_run 2 [(0, .slice p4966 x4964.length c4967), (14, .int .i64 out5358), (17, .int .i64 x4971)] w5381 (by kernel_rfl) ?_
          refine W_nil ?_
          refine N_then ?_
          obtain ⟨out5558, hw5559, hmo5560⟩ := gx_bind hm
          refine G_meet (fun a w' => ∃ (sg5565 : Seg), ownS encRegion out5558 p4966 c4967 sg5565 ∧ out5558.length = x4964.length ∧ Mem (idsOf [sg4968]) w w' [sg5565] ∧ Sat Try.f97.ntmps [] a) ?_ ?_
          · refine G_block ?_
            refine G_while (σ := Int × List Region) (ρ := List Region) (fun s5551 a w' => ∃ (sg5561 : Seg), ownS encRegion s5551.2 p4966 c4967 sg5561 ∧ s5551.2.length = x4964.length ∧ Mem (idsOf [sg4968]) w w' [sg5561] ∧ Sat Try.f97.ntmps [(0, .slice p4966 s5551.2.length c4967), (14, .int .i64 out5358), (17, .int .i64 s5551.1)] a) hw5559 (fun a ha => ⟨sg4968, ho4969, rfl, M5382.pick [0] (by kernel_rfl), ha.sub (by kernel_rfl)⟩) ?_
            clear hm
            intro s5551 x5552 hm hout5553 a5554 w5555 ⟨sg5561, ho5562, hl5563, M5556, hS5557⟩
            refine G_use hS5557 ?_
            refine G_seq ?_
            refine G_seq ?_
            refine G_region ?_
            refine W_run 3 [(0, .slice p4966 s5551.2.length c4967), (14, .int .i64 out5358), (17, .int .i64 s5551.1), (110, .bool (decide (s5551.1 > out5358)))] w5555 (by kernel_rfl) ?_
            refine W_nil ?_
            refine N_then ?_
            rcases gx_bif hm with ⟨hc5568, hm⟩ | ⟨hc5568, hm⟩
            · refine G_cond_t (b := (decide (s5551.1 > out5358))) hc5568 (by kernel_rfl) ?_
              refine G_skip ?_
              refine N_then ?_
              refine G_seq ?_
              refine G_block ?_
              obtain ⟨y5571, hy5571, hm⟩ := gx_bind hm
              obtain ⟨y5572, hy5572, hm⟩ := gx_bind hm
              obtain ⟨y5573, hy5573, hm⟩ := gx_bind hm
              have M5575 : Mem (idsOf [sg4968]) w w5555 ([] ++ (List.range 16).map (fun i => ([[], [], [], [], [], [], [], [], [], [], [], [], [], [], [], sg5561] : List Seg).getD i [])) := M5556.pick [300000, 300001, 300002, 300003, 300004, 300005, 300006, 300007, 300008, 300009, 300010, 300011, 300012, 300013, 300014, 0] (by kernel_rfl)
              refine G_sub [(0, .slice p4966 s5551.2.length c4967), (14, .int .i64 out5358), (17, .int .i64 s5551.1), (110, .bool (decide (s5551.1 > out5358)))] (by kernel_rfl) ?_
              refine G_dagL 16 [[], [], [], [], [3], [], [], [6], [5, 7], [8], [], [], [10, 11], [12], [0, 1], [9, 14]] [[], [], [], [], [], [], [], [], [], [], [], [], [], [], [], []] [[], [], [], [], [], [], [], [], [], [], [], [], [], [], [], []] [[], [], [], [], [], [], [], [], [], [], [], [], [], [], [], []] [[], [], [], [], [], [], [], [], [], [], [], [], [], [], [], []] [[], [], [], [], [], [], [], [], [15], [15], [], [], [15], [15], [15], []] (fun i => ([[], [], [], [], [], [], [], [], [], [], [], [], [], [], [], sg5561] : List Seg).getD i []) (fun i => ([fun f v s => v = (.slice p4966 s5551.2.length c4967 : Value) ∧ s = [], fun f v s => v = (.int .i64 s5551.1 : Value) ∧ s = [], fun f v s => v = (.slice p4966 s5551.2.length c4967 : Value) ∧ s = [], fun f v s => v = (.int .i64 s5551.1 : Value) ∧ s = [], fun f v s => v = (.int .i64 (w64 (s5551.1 - 1)) : Value) ∧ s = [], fun f v s => v = (.slice p4966 s5551.2.length c4967 : Value) ∧ s = [], fun f v s => v = (.int .i64 s5551.1 : Value) ∧ s = [], fun f v s => v = (.int .i64 (w64 (s5551.1 - 1)) : Value) ∧ s = [], fun f v s => v = (elemP p4966 ((w64 (s5551.1 - 1)).toNat * 4) : Value) ∧ s = [], fun f v s => v = (.agg #[.int .i64 y5571.Base, .int .i64 y5571.Size, .int .i64 y5571.Kind, .int .i64 y5571.Unit] : Value) ∧ s = [], fun f v s => v = (.slice p4966 s5551.2.length c4967 : Value) ∧ s = [], fun f v s => v = (.int .i64 s5551.1 : Value) ∧ s = [], fun f v s => v = (elemP p4966 (s5551.1.toNat * 4) : Value) ∧ s = [], fun f v s => v = (.agg #[.int .i64 y5572.Base, .int .i64 y5572.Size, .int .i64 y5572.Kind, .int .i64 y5572.Unit] : Value) ∧ s = [], fun f v s => v = (elemP p4966 (s5551.1.toNat * 4) : Value) ∧ s = [], fun f v s => v = undef ∧ ownS encRegion (s5551.2.set s5551.1.toNat y5571) p4966 c4967 s] : List ((Nat → Value) → Value → Seg → Prop)).getD i (fun _ _ _ => False)) (fun j f v => ∃ s, (fun i => ([fun f v s => v = (.slice p4966 s5551.2.length c4967 : Value) ∧ s = [], fun f v s => v = (.int .i64 s5551.1 : Value) ∧ s = [], fun f v s => v = (.slice p4966 s5551.2.length c4967 : Value) ∧ s = [], fun f v s => v = (.int .i64 s5551.1 : Value) ∧ s = [], fun f v s => v = (.int .i64 (w64 (s5551.1 - 1)) : Value) ∧ s = [], fun f v s => v = (.slice p4966 s5551.2.length c4967 : Value) ∧ s = [], fun f v s => v = (.int .i64 s5551.1 : Value) ∧ s = [], fun f v s => v = (.int .i64 (w64 (s5551.1 - 1)) : Value) ∧ s = [], fun f v s => v = (elemP p4966 ((w64 (s5551.1 - 1)).toNat * 4) : Value) ∧ s = [], fun f v s => v = (.agg #[.int .i64 y5571.Base, .int .i64 y5571.Size, .int .i64 y5571.Kind, .int .i64 y5571.Unit] : Value) ∧ s = [], fun f v s => v = (.slice p4966 s5551.2.length c4967 : Value) ∧ s = [], fun f v s => v = (.int .i64 s5551.1 : Value) ∧ s = [], fun f v s => v = (elemP p4966 (s5551.1.toNat * 4) : Value) ∧ s = [], fun f v s => v = (.agg #[.int .i64 y5572.Base, .int .i64 y5572.Size, .int .i64 y5572.Kind, .int .i64 y5572.Unit] : Value) ∧ s = [], fun f v s => v = (elemP p4966 (s5551.1.toNat * 4) : Value) ∧ s = [], fun f v s => v = undef ∧ ownS encRegion (s5551.2.set s5551.1.toNat y5571) p4966 c4967 s] : List ((Nat → Value) → Value → Seg → Prop)).getD i (fun _ _ _ => False)) j f v s) [] [2, 4, 13, 15] [15] (fun _ _ _ s h => ⟨s, h⟩) (by kernel_rfl) (by kernel_rfl) M5575 (by kernel_rfl) (by kernel_rfl) (by kernel_rfl) (by kernel_rfl) (allOb_cons ?_ (allOb_cons ?_ (allOb_cons ?_ (allOb_cons ?_ (allOb_cons ?_ (allOb_cons ?_ (allOb_cons ?_ (allOb_cons ?_ (allOb_cons ?_ (allOb_cons ?_ (allOb_cons ?_ (allOb_cons ?_ (allOb_cons ?_ (allOb_cons ?_ (allOb_cons ?_ (allOb_cons ?_ allOb_nil)))))))))))))))) ?_
              · intro g5569 f5570
                intro R w5576 M5577
                refine W_run 1 [(113, .slice p4966 s5551.2.length c4967)] w5576 (by kernel_rfl) ?_
                exact W_nil (ob_end (.slice p4966 s5551.2.length c4967) [] rfl (by kernel_rfl) ⟨by kernel_rfl, rfl⟩ M5577)
              · intro g5569 f5570
                intro R w5580 M5581
                refine W_run 1 [(114, .int .i64 s5551.1)] w5580 (by kernel_rfl) ?_
                exact W_nil (ob_end (.int .i64 s5551.1) [] rfl (by kernel_rfl) ⟨by kernel_rfl, rfl⟩ M5581)
              · intro g5569 f5570
                intro R w5584 M5585
                refine W_run 1 [(115, .slice p4966 s5551.2.length c4967)] w5584 (by kernel_rfl) ?_
                exact W_nil (ob_end (.slice p4966 s5551.2.length c4967) [] rfl (by kernel_rfl) ⟨by kernel_rfl, rfl⟩ M5585)
              · intro g5569 f5570
                intro R w5588 M5589
                refine W_run 1 [(116, .int .i64 s5551.1)] w5588 (by kernel_rfl) ?_
                exact W_nil (ob_end (.int .i64 s5551.1) [] rfl (by kernel_rfl) ⟨by kernel_rfl, rfl⟩ M5589)
              · intro g5569 f5570
                intro v3_ hb3_
                obtain ⟨rfl, _⟩ := hb3_
                intro R w5592 M5593
                refine W_run 1 [(117, .int .i64 (w64 (s5551.1 - 1)))] w5592 (by kernel_rfl) ?_
                exact W_nil (ob_end (.int .i64 (w64 (s5551.1 - 1))) [] rfl (by kernel_rfl) ⟨by kernel_rfl, rfl⟩ M5593)
              · intro g5569 f5570
                intro R w5596 M5597
                refine W_run 1 [(118, .slice p4966 s5551.2.length c4967)] w5596 (by kernel_rfl) ?_
                exact W_nil (ob_end (.slice p4966 s5551.2.length c4967) [] rfl (by kernel_rfl) ⟨by kernel_rfl, rfl⟩ M5597)
              · intro g5569 f5570
                intro R w5600 M5601
                refine W_run 1 [(119, .int .i64 s5551.1)] w5600 (by kernel_rfl) ?_
                exact W_nil (ob_end (.int .i64 s5551.1) [] rfl (by kernel_rfl) ⟨by kernel_rfl, rfl⟩ M5601)
              · intro g5569 f5570
                intro v6_ hb6_
                obtain ⟨rfl, _⟩ := hb6_
                intro R w5604 M5605
                refine W_run 1 [(120, .int .i64 (w64 (s5551.1 - 1)))] w5604 (by kernel_rfl) ?_
                exact W_nil (ob_end (.int .i64 (w64 (s5551.1 - 1))) [] rfl (by kernel_rfl) ⟨by kernel_rfl, rfl⟩ M5605)
              · intro g5569 f5570
                intro v5_ hb5_
                obtain ⟨rfl, _⟩ := hb5_
                intro v7_ hb7_
                obtain ⟨rfl, _⟩ := hb7_
                intro R w5608 M5609
                refine W_val (elemP p4966 ((w64 (s5551.1 - 1)).toNat * 4)) w5608 (by kernel_rfl) (E_index (E := encRegion) _ _ _ s5551.2.length c4967 .i64 (w64 (s5551.1 - 1)) 4 (y := y5571) rfl (by kernel_rfl) (by kernel_rfl) (by kernel_rfl) (ho5562.rd M5609 1 (by kernel_rfl)) rfl hy5571) ?_
                exact W_nil (ob_end (elemP p4966 ((w64 (s5551.1 - 1)).toNat * 4)) [] rfl (by kernel_rfl) ⟨by kernel_rfl, rfl⟩ M5609)
              · intro g5569 f5570
                intro v8_ hb8_
                obtain ⟨rfl, _⟩ := hb8_
                intro R w5612 M5613
                refine W_val (.agg #[.int .i64 y5571.Base, .int .i64 y5571.Size, .int .i64 y5571.Kind, .int .i64 y5571.Unit]) w5612 (by kernel_rfl) (E_loadE (E := encRegion) _ _ true 4 (w64 (s5551.1 - 1)) 0 ((w64 (s5551.1 - 1)).toNat * 4) y5571 (.agg #[.int .i64 y5571.Base, .int .i64 y5571.Size, .int .i64 y5571.Kind, .int .i64 y5571.Unit]) rfl (by kernel_rfl) (by kernel_rfl) (by kernel_rfl) (ho5562.rd M5613 1 (by kernel_rfl)) hy5571 rfl) ?_
                exact W_nil (ob_end (.agg #[.int .i64 y5571.Base, .int .i64 y5571.Size, .int .i64 y5571.Kind, .int .i64 y5571.Unit]) [] rfl (by kernel_rfl) ⟨by kernel_rfl, rfl⟩ M5613)
              · intro g5569 f5570
                intro R w5616 M5617
                refine W_run 1 [(123, .slice p4966 s5551.2.length c4967)] w5616 (by kernel_rfl) ?_
                exact W_nil (ob_end (.slice p4966 s5551.2.length c4967) [] rfl (by kernel_rfl) ⟨by kernel_rfl, rfl⟩ M5617)
              · intro g5569 f5570
                intro R w5620 M5621
                refine W_run 1 [(124, .int .i64 s5551.1)] w5620 (by kernel_rfl) ?_
                exact W_nil (ob_end (.int .i64 s5551.1) [] rfl (by kernel_rfl) ⟨by kernel_rfl, rfl⟩ M5621)
              · intro g5569 f5570
                intro v10_ hb10_
                obtain ⟨rfl, _⟩ := hb10_
                intro v11_ hb11_
                obtain ⟨rfl, _⟩ := hb11_
                intro R w5624 M5625
                refine W_val (elemP p4966 (s5551.1.toNat * 4)) w5624 (by kernel_rfl) (E_index (E := encRegion) _ _ _ s5551.2.length c4967 .i64 s5551.1 4 (y := y5572) rfl (by kernel_rfl) (by kernel_rfl) (by kernel_rfl) (ho5562.rd M5625 1 (by kernel_rfl)) rfl hy5572) ?_
                exact W_nil (ob_end (elemP p4966 (s5551.1.toNat * 4)) [] rfl (by kernel_rfl) ⟨by kernel_rfl, rfl⟩ M5625)
              · intro g5569 f5570
                intro v12_ hb12_
                obtain ⟨rfl, _⟩ := hb12_
                intro R w5628 M5629
                refine W_val (.agg #[.int .i64 y5572.Base, .int .i64 y5572.Size, .int .i64 y5572.Kind, .int .i64 y5572.Unit]) w5628 (by kernel_rfl) (E_loadE (E := encRegion) _ _ true 4 s5551.1 0 (s5551.1.toNat * 4) y5572 (.agg #[.int .i64 y5572.Base, .int .i64 y5572.Size, .int .i64 y5572.Kind, .int .i64 y5572.Unit]) rfl (by kernel_rfl) (by kernel_rfl) (by kernel_rfl) (ho5562.rd M5629 1 (by kernel_rfl)) hy5572 rfl) ?_
                exact W_nil (ob_end (.agg #[.int .i64 y5572.Base, .int .i64 y5572.Size, .int .i64 y5572.Kind, .int .i64 y5572.Unit]) [] rfl (by kernel_rfl) ⟨by kernel_rfl, rfl⟩ M5629)
              · intro g5569 f5570
                intro v0_ hb0_
                obtain ⟨rfl, _⟩ := hb0_
                intro v1_ hb1_
                obtain ⟨rfl, _⟩ := hb1_
                intro R w5632 M5633
                refine W_val (elemP p4966 (s5551.1.toNat * 4)) w5632 (by kernel_rfl) (E_index (E := encRegion) _ _ _ s5551.2.length c4967 .i64 s5551.1 4 (y := y5573) rfl (by kernel_rfl) (by kernel_rfl) (by kernel_rfl) (ho5562.rd M5633 1 (by kernel_rfl)) rfl hy5573) ?_
                exact W_nil (ob_end (elemP p4966 (s5551.1.toNat * 4)) [] rfl (by kernel_rfl) ⟨by kernel_rfl, rfl⟩ M5633)
              · intro g5569 f5570
                intro v9_ hb9_
                obtain ⟨rfl, _⟩ := hb9_
                intro v14_ hb14_
                obtain ⟨rfl, _⟩ := hb14_
                intro R w5636 M5637
                refine W_storeE (E := encRegion) _ _ _ true 4 s5551.1.toNat 0 (s5551.1.toNat * 4) y5573 y5571 (.agg #[.int .i64 y5571.Base, .int .i64 y5571.Size, .int .i64 y5571.Kind, .int .i64 y5571.Unit]) 0 M5637 ho5562 (by kernel_rfl) (by kernel_rfl) rfl (by kernel_rfl) (by kernel_rfl) (by kernel_rfl) (by kernel_rfl) (by kernel_rfl) (by kernel_rfl) (by kernel_rfl) (gxIdx_spec hy5573).2 rfl ?_
                intro w5638 sg5640 ho5641 M5639
                exact W_nil (ob_none sg5640 rfl ⟨rfl, ho5641⟩ M5639)
              · intro g5569 f5570
                intro v2_ hb2_
                obtain ⟨rfl, _⟩ := hb2_
                intro v4_ hb4_
                obtain ⟨rfl, _⟩ := hb4_
                intro v13_ hb13_
                obtain ⟨rfl, _⟩ := hb13_
                intro v15_ hb15_
                obtain ⟨rfl, ho5574⟩ := hb15_
                intro w5642 M5643
                have M5644 : Mem (idsOf [sg4968]) w w5642 [(g5569 15)] := M5643
                refine W_conv 0 (.slice p4966 s5551.2.length c4967) (.slice p4966 (s5551.2.set s5551.1.toNat y5571).length c4967) (by kernel_rfl) (by rw [@List.length_set _ s5551.2 s5551.1.toNat y5571]) ?_
                refine W_conv 115 (.slice p4966 s5551.2.length c4967) (.slice p4966 (s5551.2.set s5551.1.toNat y5571).length c4967) (by kernel_rfl) (by rw [@List.length_set _ s5551.2 s5551.1.toNat y5571]) ?_
                obtain ⟨y5645, hy5645, hm⟩ := gx_bind hm
                refine W_val (elemP p4966 ((w64 (s5551.1 - 1)).toNat * 4)) w5642 (by kernel_rfl) (E_index (E := encRegion) _ _ _ (s5551.2.set s5551.1.toNat y5571).length c4967 .i64 (w64 (s5551.1 - 1)) 4 (y := y5645) rfl (by kernel_rfl) (by kernel_rfl) (by kernel_rfl) (ho5574.rd M5644 0 (by kernel_rfl)) rfl hy5645) ?_
                refine W_storeE (E := encRegion) _ _ _ true 4 (w64 (s5551.1 - 1)).toNat 0 ((w64 (s5551.1 - 1)).toNat * 4) y5645 y5572 (.agg #[.int .i64 y5572.Base, .int .i64 y5572.Size, .int .i64 y5572.Kind, .int .i64 y5572.Unit]) 0 M5644 ho5574 (by kernel_rfl) (by kernel_rfl) rfl (by kernel_rfl) (by kernel_rfl) (by kernel_rfl) (by kernel_rfl) (by kernel_rfl) (by kernel_rfl) (by kernel_rfl) (gxIdx_spec hy5645).2 rfl ?_
                intro w5646 sg5648 ho5649 M5647
                refine W_conv 0 (.slice p4966 (s5551.2.set s5551.1.toNat y5571).length c4967) (.slice p4966 ((s5551.2.set s5551.1.toNat y5571).set (w64 (s5551.1 - 1)).toNat y5572).length c4967) (by kernel_rfl) (by rw [@List.length_set _ (s5551.2.set s5551.1.toNat y5571) ((w64 (s5551.1 - 1)).toNat) y5572]) ?_
                refine W_conv 115 (.slice p4966 (s5551.2.set s5551.1.toNat y5571).length c4967) (.slice p4966 ((s5551.2.set s5551.1.toNat y5571).set (w64 (s5551.1 - 1)).toNat y5572).length c4967) (by kernel_rfl) (by rw [@List.length_set _ (s5551.2.set s5551.1.toNat y5571) ((w64 (s5551.1 - 1)).toNat) y5572]) ?_
                refine W_nil ?_
                refine N_block ?_
                refine N_then ?_
                refine G_region ?_
                refine W_run 3 [(0, .slice p4966 ((s5551.2.set s5551.1.toNat y5571).set (w64 (s5551.1 - 1)).toNat y5572).length c4967), (14, .int .i64 out5358), (17, .int .i64 (w64 (s5551.1 - 1)))] w5646 (by kernel_rfl) ?_
                refine W_nil ?_
                obtain rfl := Option.some.inj hm
                exact N_loop fun a ha => ⟨_, rfl, sg5648, ho5649, (List.length_set.trans (List.length_set.trans hl5563)), M5647.pick [0] (by kernel_rfl), ha.sub (by kernel_rfl)⟩
            · refine G_cond_f (b := (decide (s5551.1 > out5358))) hc5568 (by kernel_rfl) ?_
              refine G_exit ?_
              refine N_then_exit ?_
              refine N_then_exit ?_
              refine N_block_eq ?_
              obtain rfl := Option.some.inj hm
              obtain rfl := hout5553 _ rfl
              exact N_meet fun a ha => ⟨sg5561, ho5562, hl5563, M5556.pick [0] (by kernel_rfl), ha.sub (by kernel_rfl)⟩
          · intro a5650 w5651 ⟨sg5565, ho5566, hl5567, M5652, hS5653⟩
            refine N_use hS5653 ?_
            have hm := hmo5560
            refine N_then ?_
            refine G_ret ?_
            refine N_then_ret ?_
            obtain rfl := Option.some.inj hm
            refine N_ret [] (RVs_nil) ?_
            exact ⟨sg5565, rfl, ho5566, hl5567, M5652.pick [0] (by kernel_rfl)⟩
      · refine G_cond_f (b := ((w64 (x4972 - x4971)) == 1)) hc5314 (by kernel_rfl) ?_
        refine G_skip ?_
        refine N_then ?_
        refine G_seq ?_
        refine G_region ?_
        refine W_run 7 [(0, .slice p4966 x4964.length c4967), (1, .int .i64 x4970), (2, .int .i64 x4971), (3, .int .i64 x4972), (4, .func (.func 90) #[] #[]), (18, .int .i64 (w64 ((IntKind.u64.wrap (w64 (x4970 + x4972))).fdiv (2 ^ 1))))] w (by kernel_rfl) ?_
        refine W_nil ?_
        refine N_then ?_
        refine G_seq ?_
        refine G_region ?_
        refine W_run 4 [(0, .slice p4966 x4964.length c4967), (1, .int .i64 x4970), (2, .int .i64 x4971), (3, .int .i64 x4972), (4, .func (.func 90) #[] #[]), (18, .int .i64 (w64 ((IntKind.u64.wrap (w64 (x4970 + x4972))).fdiv (2 ^ 1)))), (19, .int .i64 (w64 ((w64 ((IntKind.u64.wrap (w64 (x4970 + x4972))).fdiv (2 ^ 1))) + x4971)))] w (by kernel_rfl) ?_
        refine W_nil ?_
        refine N_then ?_
        refine G_seq ?_
        refine G_region ?_
        refine W_run 2 [(0, .slice p4966 x4964.length c4967), (1, .int .i64 x4970), (2, .int .i64 x4971), (3, .int .i64 x4972), (4, .func (.func 90) #[] #[]), (18, .int .i64 (w64 ((IntKind.u64.wrap (w64 (x4970 + x4972))).fdiv (2 ^ 1)))), (19, .int .i64 (w64 ((w64 ((IntKind.u64.wrap (w64 (x4970 + x4972))).fdiv (2 ^ 1))) + x4971)))] w (by kernel_rfl) ?_
        refine W_nil ?_
        refine N_then ?_
        refine G_seq ?_
        refine G_seq ?_
        refine G_region ?_
        refine W_run 3 [(0, .slice p4966 x4964.length c4967), (1, .int .i64 x4970), (2, .int .i64 x4971), (3, .int .i64 x4972), (4, .func (.func 90) #[] #[]), (18, .int .i64 (w64 ((IntKind.u64.wrap (w64 (x4970 + x4972))).fdiv (2 ^ 1)))), (19, .int .i64 (w64 ((w64 ((IntKind.u64.wrap (w64 (x4970 + x4972))).fdiv (2 ^ 1))) + x4971))), (140, .bool (decide (x4971 > (w64 ((IntKind.u64.wrap (w64 (x4970 + x4972))).fdiv (2 ^ 1))))))] w (by kernel_rfl) ?_
        refine W_nil ?_
        refine N_then ?_
        obtain ⟨o5655, ho5656, hm5657⟩ := gx_bind hm
        refine G_meet (fun a w' => Mem (idsOf [sg4968]) w w' [sg4968] ∧ Sat Try.f97.ntmps [(0, .slice p4966 x4964.length c4967), (1, .int .i64 x4970), (2, .int .i64 x4971), (3, .int .i64 x4972), (4, .func (.func 90) #[] #[]), (18, .int .i64 (w64 ((IntKind.u64.wrap (w64 (x4970 + x4972))).fdiv (2 ^ 1)))), (19, .int .i64 (w64 ((w64 ((IntKind.u64.wrap (w64 (x4970 + x4972))).fdiv (2 ^ 1))) + x4971))), (20, .int .i64 o5655.1), (21, .int .i64 o5655.2)] a) ?_ ?_
        · have hm := ho5656
          rcases gx_bif hm with ⟨hc5658, hm⟩ | ⟨hc5658, hm⟩
          · refine G_cond_t (b := (decide (x4971 > (w64 ((IntKind.u64.wrap (w64 (x4970 + x4972))).fdiv (2 ^ 1)))))) hc5658 (by kernel_rfl) ?_
            refine G_seq ?_
            refine G_region ?_
            refine W_run 4 [(0, .slice p4966 x4964.length c4967), (1, .int .i64 x4970), (2, .int .i64 x4971), (3, .int .i64 x4972), (4, .func (.func 90) #[] #[]), (18, .int .i64 (w64 ((IntKind.u64.wrap (w64 (x4970 + x4972))).fdiv (2 ^ 1)))), (19, .int .i64 (w64 ((w64 ((IntKind.u64.wrap (w64 (x4970 + x4972))).fdiv (2 ^ 1))) + x4971))), (20, .int .i64 (w64 ((w64 ((w64 ((IntKind.u64.wrap (w64 (x4970 + x4972))).fdiv (2 ^ 1))) + x4971)) - x4972)))] w (by kernel_rfl) ?_
            refine W_nil ?_
            refine N_then ?_
            refine G_region ?_
            refine W_run 2 [(0, .slice p4966 x4964.length c4967), (1, .int .i64 x4970), (2, .int .i64 x4971), (3, .int .i64 x4972), (4, .func (.func 90) #[] #[]), (18, .int .i64 (w64 ((IntKind.u64.wrap (w64 (x4970 + x4972))).fdiv (2 ^ 1)))), (19, .int .i64 (w64 ((w64 ((IntKind.u64.wrap (w64 (x4970 + x4972))).fdiv (2 ^ 1))) + x4971))), (20, .int .i64 (w64 ((w64 ((w64 ((IntKind.u64.wrap (w64 (x4970 + x4972))).fdiv (2 ^ 1))) + x4971)) - x4972))), (21, .int .i64 (w64 ((IntKind.u64.wrap (w64 (x4970 + x4972))).fdiv (2 ^ 1))))] w (by kernel_rfl) ?_
            refine W_nil ?_
            obtain rfl := Option.some.inj hm
            exact N_meet fun a ha => ⟨M0.pick [0] (by kernel_rfl), ha.sub (by kernel_rfl)⟩
          · refine G_cond_f (b := (decide (x4971 > (w64 ((IntKind.u64.wrap (w64 (x4970 + x4972))).fdiv (2 ^ 1)))))) hc5658 (by kernel_rfl) ?_
            refine G_seq ?_
            refine G_region ?_
            refine W_run 2 [(0, .slice p4966 x4964.length c4967), (1, .int .i64 x4970), (2, .int .i64 x4971), (3, .int .i64 x4972), (4, .func (.func 90) #[] #[]), (18, .int .i64 (w64 ((IntKind.u64.wrap (w64 (x4970 + x4972))).fdiv (2 ^ 1)))), (19, .int .i64 (w64 ((w64 ((IntKind.u64.wrap (w64 (x4970 + x4972))).fdiv (2 ^ 1))) + x4971))), (20, .int .i64 x4970)] w (by kernel_rfl) ?_
            refine W_nil ?_
            refine N_then ?_
            refine G_region ?_
            refine W_run 2 [(0, .slice p4966 x4964.length c4967), (1, .int .i64 x4970), (2, .int .i64 x4971), (3, .int .i64 x4972), (4, .func (.func 90) #[] #[]), (18, .int .i64 (w64 ((IntKind.u64.wrap (w64 (x4970 + x4972))).fdiv (2 ^ 1)))), (19, .int .i64 (w64 ((w64 ((IntKind.u64.wrap (w64 (x4970 + x4972))).fdiv (2 ^ 1))) + x4971))), (20, .int .i64 x4970), (21, .int .i64 x4971)] w (by kernel_rfl) ?_
            refine W_nil ?_
            obtain rfl := Option.some.inj hm
            exact N_meet fun a ha => ⟨M0.pick [0] (by kernel_rfl), ha.sub (by kernel_rfl)⟩
        · intro a5661 w5659 ⟨M5660, hS5662⟩
          refine N_use hS5662 ?_
          have hm := hm5657
          refine N_then ?_
          refine G_seq ?_
          refine G_region ?_
          refine W_run 3 [(0, .slice p4966 x4964.length c4967), (1, .int .i64 x4970), (2, .int .i64 x4971), (3, .int .i64 x4972), (4, .func (.func 90) #[] #[]), (18, .int .i64 (w64 ((IntKind.u64.wrap (w64 (x4970 + x4972))).fdiv (2 ^ 1)))), (19, .int .i64 (w64 ((w64 ((IntKind.u64.wrap (w64 (x4970 + x4972))).fdiv (2 ^ 1))) + x4971))), (20, .int .i64 o5655.1), (21, .int .i64 o5655.2), (22, .int .i64 (w64 ((w64 ((w64 ((IntKind.u64.wrap (w64 (x4970 + x4972))).fdiv (2 ^ 1))) + x4971)) - 1)))] w5659 (by kernel_rfl) ?_
          refine W_nil ?_
          refine N_then ?_
          refine G_seq ?_
          obtain ⟨out5706, hw5707, hmo5708⟩ := gx_bind hm
          refine G_meet (fun a w' => Mem (idsOf [sg4968]) w w' [sg4968] ∧ Sat Try.f97.ntmps [(0, .slice p4966 x4964.length c4967), (1, .int .i64 x4970), (2, .int .i64 x4971), (3, .int .i64 x4972), (4, .func (.func 90) #[] #[]), (18, .int .i64 (w64 ((IntKind.u64.wrap (w64 (x4970 + x4972))).fdiv (2 ^ 1)))), (19, .int .i64 (w64 ((w64 ((IntKind.u64.wrap (w64 (x4970 + x4972))).fdiv (2 ^ 1))) + x4971))), (20, .int .i64 out5706)] a) ?_ ?_
          · refine G_block ?_
            refine G_while (σ := Int × Int) (ρ := Int) (fun s5699 a w' => Mem (idsOf [sg4968]) w w' [sg4968] ∧ Sat Try.f97.ntmps [(0, .slice p4966 x4964.length c4967), (1, .int .i64 x4970), (2, .int .i64 x4971), (3, .int .i64 x4972), (4, .func (.func 90) #[] #[]), (18, .int .i64 (w64 ((IntKind.u64.wrap (w64 (x4970 + x4972))).fdiv (2 ^ 1)))), (19, .int .i64 (w64 ((w64 ((IntKind.u64.wrap (w64 (x4970 + x4972))).fdiv (2 ^ 1))) + x4971))), (20, .int .i64 s5699.1), (21, .int .i64 s5699.2), (22, .int .i64 (w64 ((w64 ((w64 ((IntKind.u64.wrap (w64 (x4970 + x4972))).fdiv (2 ^ 1))) + x4971)) - 1)))] a) hw5707 (fun a ha => ⟨M5660.pick [0] (by kernel_rfl), ha.sub (by kernel_rfl)⟩) ?_
            clear hm
            intro s5699 x5700 hm hout5701 a5702 w5703 ⟨M5704, hS5705⟩
            refine G_use hS5705 ?_
            refine G_seq ?_
            refine G_seq ?_
            refine G_region ?_
            refine W_run 3 [(0, .slice p4966 x4964.length c4967), (1, .int .i64 x4970), (2, .int .i64 x4971), (3, .int .i64 x4972), (4, .func (.func 90) #[] #[]), (18, .int .i64 (w64 ((IntKind.u64.wrap (w64 (x4970 + x4972))).fdiv (2 ^ 1)))), (19, .int .i64 (w64 ((w64 ((IntKind.u64.wrap (w64 (x4970 + x4972))).fdiv (2 ^ 1))) + x4971))), (20, .int .i64 s5699.1), (21, .int .i64 s5699.2), (22, .int .i64 (w64 ((w64 ((w64 ((IntKind.u64.wrap (w64 (x4970 + x4972))).fdiv (2 ^ 1))) + x4971)) - 1))), (151, .bool (decide (s5699.1 < s5699.2)))] w5703 (by kernel_rfl) ?_
            refine W_nil ?_
            refine N_then ?_
            rcases gx_bif hm with ⟨hc5710, hm⟩ | ⟨hc5710, hm⟩
            · refine G_cond_t (b := (decide (s5699.1 < s5699.2))) hc5710 (by kernel_rfl) ?_
              refine G_skip ?_
              refine N_then ?_
              refine G_block ?_
              refine G_seq ?_
              refine G_region ?_
              refine W_run 7 [(0, .slice p4966 x4964.length c4967), (1, .int .i64 x4970), (2, .int .i64 x4971), (3, .int .i64 x4972), (4, .func (.func 90) #[] #[]), (18, .int .i64 (w64 ((IntKind.u64.wrap (w64 (x4970 + x4972))).fdiv (2 ^ 1)))), (19, .int .i64 (w64 ((w64 ((IntKind.u64.wrap (w64 (x4970 + x4972))).fdiv (2 ^ 1))) + x4971))), (20, .int .i64 s5699.1), (21, .int .i64 s5699.2), (22, .int .i64 (w64 ((w64 ((w64 ((IntKind.u64.wrap (w64 (x4970 + x4972))).fdiv (2 ^ 1))) + x4971)) - 1))), (23, .int .i64 (w64 ((IntKind.u64.wrap (w64 (s5699.1 + s5699.2))).fdiv (2 ^ 1))))] w5703 (by kernel_rfl) ?_
              refine W_nil ?_
              refine N_then ?_
              refine G_seq ?_
              refine G_quiet (by kernel_rfl) (by kernel_rfl) M5704 ?_
              refine Z_runs [.func (.func 90) #[] #[], .slice p4966 x4964.length c4967, .int .i64 (w64 ((w64 ((w64 ((IntKind.u64.wrap (w64 (x4970 + x4972))).fdiv (2 ^ 1))) + x4971)) - 1)), .int .i64 (w64 ((IntKind.u64.wrap (w64 (s5699.1 + s5699.2))).fdiv (2 ^ 1))), .int .i64 (w64 ((w64 ((w64 ((w64 ((IntKind.u64.wrap (w64 (x4970 + x4972))).fdiv (2 ^ 1))) + x4971)) - 1)) - (w64 ((IntKind.u64.wrap (w64 (s5699.1 + s5699.2))).fdiv (2 ^ 1)))))] [(0, .slice p4966 x4964.length c4967), (1, .int .i64 x4970), (2, .int .i64 x4971), (3, .int .i64 x4972), (4, .func (.func 90) #[] #[]), (18, .int .i64 (w64 ((IntKind.u64.wrap (w64 (x4970 + x4972))).fdiv (2 ^ 1)))), (19, .int .i64 (w64 ((w64 ((IntKind.u64.wrap (w64 (x4970 + x4972))).fdiv (2 ^ 1))) + x4971))), (20, .int .i64 s5699.1), (21, .int .i64 s5699.2), (22, .int .i64 (w64 ((w64 ((w64 ((IntKind.u64.wrap (w64 (x4970 + x4972))).fdiv (2 ^ 1))) + x4971)) - 1))), (23, .int .i64 (w64 ((IntKind.u64.wrap (w64 (s5699.1 + s5699.2))).fdiv (2 ^ 1)))), (158, .func (.func 90) #[] #[]), (159, .slice p4966 x4964.length c4967), (162, .int .i64 (w64 ((w64 ((w64 ((w64 ((IntKind.u64.wrap (w64 (x4970 + x4972))).fdiv (2 ^ 1))) + x4971)) - 1)) - (w64 ((IntKind.u64.wrap (w64 (s5699.1 + s5699.2))).fdiv (2 ^ 1))))))] (fun w_ => by kernel_rfl) (by kernel_rfl) ?_
              obtain ⟨y5711, hy5711, hm⟩ := gx_bind hm
              refine Z_val (elemP p4966 ((w64 ((w64 ((w64 ((w64 ((IntKind.u64.wrap (w64 (x4970 + x4972))).fdiv (2 ^ 1))) + x4971)) - 1)) - (w64 ((IntKind.u64.wrap (w64 (s5699.1 + s5699.2))).fdiv (2 ^ 1))))).toNat * 4)) (by kernel_rfl) (fun w_ M_ => (E_index (E := encRegion) _ _ _ x4964.length c4967 .i64 (w64 ((w64 ((w64 ((w64 ((IntKind.u64.wrap (w64 (x4970 + x4972))).fdiv (2 ^ 1))) + x4971)) - 1)) - (w64 ((IntKind.u64.wrap (w64 (s5699.1 + s5699.2))).fdiv (2 ^ 1))))) 4 (y := y5711) rfl (by kernel_rfl) (by kernel_rfl) (by kernel_rfl) (ho4969.rd M_ 0 (by kernel_rfl)) rfl hy5711)) ?_
              refine Z_val (.agg #[.int .i64 y5711.Base, .int .i64 y5711.Size, .int .i64 y5711.Kind, .int .i64 y5711.Unit]) (by kernel_rfl) (fun w_ M_ => (E_loadE (E := encRegion) _ _ true 4 (w64 ((w64 ((w64 ((w64 ((IntKind.u64.wrap (w64 (x4970 + x4972))).fdiv (2 ^ 1))) + x4971)) - 1)) - (w64 ((IntKind.u64.wrap (w64 (s5699.1 + s5699.2))).fdiv (2 ^ 1))))) 0 ((w64 ((w64 ((w64 ((w64 ((IntKind.u64.wrap (w64 (x4970 + x4972))).fdiv (2 ^ 1))) + x4971)) - 1)) - (w64 ((IntKind.u64.wrap (w64 (s5699.1 + s5699.2))).fdiv (2 ^ 1))))).toNat * 4) y5711 (.agg #[.int .i64 y5711.Base, .int .i64 y5711.Size, .int .i64 y5711.Kind, .int .i64 y5711.Unit]) rfl (by kernel_rfl) (by kernel_rfl) (by kernel_rfl) (ho4969.rd M_ 0 (by kernel_rfl)) hy5711 rfl)) ?_
              refine Z_runs [.slice p4966 x4964.length c4967, .int .i64 (w64 ((IntKind.u64.wrap (w64 (s5699.1 + s5699.2))).fdiv (2 ^ 1)))] [(0, .slice p4966 x4964.length c4967), (1, .int .i64 x4970), (2, .int .i64 x4971), (3, .int .i64 x4972), (4, .func (.func 90) #[] #[]), (18, .int .i64 (w64 ((IntKind.u64.wrap (w64 (x4970 + x4972))).fdiv (2 ^ 1)))), (19, .int .i64 (w64 ((w64 ((IntKind.u64.wrap (w64 (x4970 + x4972))).fdiv (2 ^ 1))) + x4971))), (20, .int .i64 s5699.1), (21, .int .i64 s5699.2), (22, .int .i64 (w64 ((w64 ((w64 ((IntKind.u64.wrap (w64 (x4970 + x4972))).fdiv (2 ^ 1))) + x4971)) - 1))), (23, .int .i64 (w64 ((IntKind.u64.wrap (w64 (s5699.1 + s5699.2))).fdiv (2 ^ 1)))), (158, .func (.func 90) #[] #[]), (164, .agg #[.int .i64 y5711.Base, .int .i64 y5711.Size, .int .i64 y5711.Kind, .int .i64 y5711.Unit]), (165, .slice p4966 x4964.length c4967), (166, .int .i64 (w64 ((IntKind.u64.wrap (w64 (s5699.1 + s5699.2))).fdiv (2 ^ 1))))] (fun w_ => by kernel_rfl) (by kernel_rfl) ?_
              obtain ⟨y5712, hy5712, hm⟩ := gx_bind hm
              refine Z_val (elemP p4966 ((w64 ((IntKind.u64.wrap (w64 (s5699.1 + s5699.2))).fdiv (2 ^ 1))).toNat * 4)) (by kernel_rfl) (fun w_ M_ => (E_index (E := encRegion) _ _ _ x4964.length c4967 .i64 (w64 ((IntKind.u64.wrap (w64 (s5699.1 + s5699.2))).fdiv (2 ^ 1))) 4 (y := y5712) rfl (by kernel_rfl) (by kernel_rfl) (by kernel_rfl) (ho4969.rd M_ 0 (by kernel_rfl)) rfl hy5712)) ?_
              refine Z_val (.agg #[.int .i64 y5712.Base, .int .i64 y5712.Size, .int .i64 y5712.Kind, .int .i64 y5712.Unit]) (by kernel_rfl) (fun w_ M_ => (E_loadE (E := encRegion) _ _ true 4 (w64 ((IntKind.u64.wrap (w64 (s5699.1 + s5699.2))).fdiv (2 ^ 1))) 0 ((w64 ((IntKind.u64.wrap (w64 (s5699.1 + s5699.2))).fdiv (2 ^ 1))).toNat * 4) y5712 (.agg #[.int .i64 y5712.Base, .int .i64 y5712.Size, .int .i64 y5712.Kind, .int .i64 y5712.Unit]) rfl (by kernel_rfl) (by kernel_rfl) (by kernel_rfl) (ho4969.rd M_ 0 (by kernel_rfl)) hy5712 rfl)) ?_
              obtain ⟨r5713, hr5713, hm⟩ := gx_bind hm
              refine Z_call 90 #[.agg #[.int .i64 y5711.Base, .int .i64 y5711.Size, .int .i64 y5711.Kind, .int .i64 y5711.Unit], .agg #[.int .i64 y5712.Base, .int .i64 y5712.Size, .int .i64 y5712.Kind, .int .i64 y5712.Unit]] (.int .i64 r5713) (by kernel_rfl) (fun w_ => by kernel_rfl) (fun w_ M_ => (c_i_asMap_1 w_ y5711 y5712 hr5713).mono fun e w2_ h_ => ⟨h_.1, M_.call0 h_.2⟩) ?_
              refine Z_runs [.bool (decide (r5713 < 0)), .bool (!(decide (r5713 < 0)))] [(0, .slice p4966 x4964.length c4967), (1, .int .i64 x4970), (2, .int .i64 x4971), (3, .int .i64 x4972), (4, .func (.func 90) #[] #[]), (18, .int .i64 (w64 ((IntKind.u64.wrap (w64 (x4970 + x4972))).fdiv (2 ^ 1)))), (19, .int .i64 (w64 ((w64 ((IntKind.u64.wrap (w64 (x4970 + x4972))).fdiv (2 ^ 1))) + x4971))), (20, .int .i64 s5699.1), (21, .int .i64 s5699.2), (22, .int .i64 (w64 ((w64 ((w64 ((IntKind.u64.wrap (w64 (x4970 + x4972))).fdiv (2 ^ 1))) + x4971)) - 1))), (23, .int .i64 (w64 ((IntKind.u64.wrap (w64 (s5699.1 + s5699.2))).fdiv (2 ^ 1)))), (171, .bool (!(decide (r5713 < 0))))] (fun w_ => by kernel_rfl) (by kernel_rfl) ?_
              refine Z_end fun w5717 M5718 => ?_
              refine N_then ?_
              obtain ⟨o5720, ho5721, hm5722⟩ := gx_bind hm
              refine G_meet (fun a w' => Mem (idsOf [sg4968]) w w' [sg4968] ∧ Sat Try.f97.ntmps [(0, .slice p4966 x4964.length c4967), (1, .int .i64 x4970), (2, .int .i64 x4971), (3, .int .i64 x4972), (4, .func (.func 90) #[] #[]), (18, .int .i64 (w64 ((IntKind.u64.wrap (w64 (x4970 + x4972))).fdiv (2 ^ 1)))), (19, .int .i64 (w64 ((w64 ((IntKind.u64.wrap (w64 (x4970 + x4972))).fdiv (2 ^ 1))) + x4971))), (20, .int .i64 o5720.1), (21, .int .i64 o5720.2), (22, .int .i64 (w64 ((w64 ((w64 ((IntKind.u64.wrap (w64 (x4970 + x4972))).fdiv (2 ^ 1))) + x4971)) - 1)))] a) ?_ ?_
              · have hm := ho5721
                rcases gx_bif hm with ⟨hc5723, hm⟩ | ⟨hc5723, hm⟩
                · refine G_cond_t (b := (!(decide (r5713 < 0)))) hc5723 (by kernel_rfl) ?_
                  refine G_region ?_
                  refine W_run 3 [(0, .slice p4966 x4964.length c4967), (1, .int .i64 x4970), (2, .int .i64 x4971), (3, .int .i64 x4972), (4, .func (.func 90) #[] #[]), (18, .int .i64 (w64 ((IntKind.u64.wrap (w64 (x4970 + x4972))).fdiv (2 ^ 1)))), (19, .int .i64 (w64 ((w64 ((IntKind.u64.wrap (w64 (x4970 + x4972))).fdiv (2 ^ 1))) + x4971))), (20, .int .i64 (w64 ((w64 ((IntKind.u64.wrap (w64 (s5699.1 + s5699.2))).fdiv (2 ^ 1))) + 1))), (21, .int .i64 s5699.2), (22, .int .i64 (w64 ((w64 ((w64 ((IntKind.u64.wrap (w64 (x4970 + x4972))).fdiv (2 ^ 1))) + x4971)) - 1)))] w5717 (by kernel_rfl) ?_
                  refine W_nil ?_
                  obtain rfl := Option.some.inj hm
                  exact N_meet fun a ha => ⟨M5718.pick [0] (by kernel_rfl), ha.sub (by kernel_rfl)⟩
                · refine G_cond_f (b := (!(decide (r5713 < 0)))) hc5723 (by kernel_rfl) ?_
                  refine G_region ?_
                  refine W_run 2 [(0, .slice p4966 x4964.length c4967), (1, .int .i64 x4970), (2, .int .i64 x4971), (3, .int .i64 x4972), (4, .func (.func 90) #[] #[]), (18, .int .i64 (w64 ((IntKind.u64.wrap (w64 (x4970 + x4972))).fdiv (2 ^ 1)))), (19, .int .i64 (w64 ((w64 ((IntKind.u64.wrap (w64 (x4970 + x4972))).fdiv (2 ^ 1))) + x4971))), (20, .int .i64 s5699.1), (21, .int .i64 (w64 ((IntKind.u64.wrap (w64 (s5699.1 + s5699.2))).fdiv (2 ^ 1)))), (22, .int .i64 (w64 ((w64 ((w64 ((IntKind.u64.wrap (w64 (x4970 + x4972))).fdiv (2 ^ 1))) + x4971)) - 1)))] w5717 (by kernel_rfl) ?_
                  refine W_nil ?_
                  obtain rfl := Option.some.inj hm
                  exact N_meet fun a ha => ⟨M5718.pick [0] (by kernel_rfl), ha.sub (by kernel_rfl)⟩
              · intro a5726 w5724 ⟨M5725, hS5727⟩
                refine N_use hS5727 ?_
                have hm := hm5722
                refine N_block ?_
                obtain rfl := Option.some.inj hm
                exact N_loop fun a ha => ⟨_, rfl, M5725.pick [0] (by kernel_rfl), ha.sub (by kernel_rfl)⟩
            · refine G_cond_f (b := (decide (s5699.1 < s5699.2))) hc5710 (by kernel_rfl) ?_
              refine G_exit ?_
              refine N_then_exit ?_
              refine N_then_exit ?_
              refine N_block_eq ?_
              obtain rfl := Option.some.inj hm
              obtain rfl := hout5701 _ rfl
              exact N_meet fun a ha => ⟨M5704.pick [0] (by kernel_rfl), ha.sub (by kernel_rfl)⟩
          · intro a5728 w5729 ⟨M5730, hS5731⟩
            refine N_use hS5731 ?_
            have hm := hmo5708
            refine N_then ?_
            refine G_seq ?_
            refine G_region ?_
            refine W_run 4 [(0, .slice p4966 x4964.length c4967), (1, .int .i64 x4970), (2, .int .i64 x4971), (3, .int .i64 x4972), (4, .func (.func 90) #[] #[]), (18, .int .i64 (w64 ((IntKind.u64.wrap (w64 (x4970 + x4972))).fdiv (2 ^ 1)))), (20, .int .i64 out5706), (24, .int .i64 (w64 ((w64 ((w64 ((IntKind.u64.wrap (w64 (x4970 + x4972))).fdiv (2 ^ 1))) + x4971)) - out5706)))] w5729 (by kernel_rfl) ?_
            refine W_nil ?_
            refine N_then ?_
            refine G_seq ?_
            refine G_seq ?_
            obtain ⟨o5733, ho5734, hm5735⟩ := gx_bind hm
            refine G_meet (fun a w' => Mem (idsOf [sg4968]) w w' [sg4968] ∧ Sat Try.f97.ntmps [(0, .slice p4966 x4964.length c4967), (1, .int .i64 x4970), (2, .int .i64 x4971), (3, .int .i64 x4972), (4, .func (.func 90) #[] #[]), (18, .int .i64 (w64 ((IntKind.u64.wrap (w64 (x4970 + x4972))).fdiv (2 ^ 1)))), (20, .int .i64 out5706), (24, .int .i64 (w64 ((w64 ((w64 ((IntKind.u64.wrap (w64 (x4970 + x4972))).fdiv (2 ^ 1))) + x4971)) - out5706))), (185, .bool o5733)] a) ?_ ?_
            · have hm := ho5734
              refine G_region ?_
              refine W_run 4 [(0, .slice p4966 x4964.length c4967), (1, .int .i64 x4970), (2, .int .i64 x4971), (3, .int .i64 x4972), (4, .func (.func 90) #[] #[]), (18, .int .i64 (w64 ((IntKind.u64.wrap (w64 (x4970 + x4972))).fdiv (2 ^ 1)))), (20, .int .i64 out5706), (24, .int .i64 (w64 ((w64 ((w64 ((IntKind.u64.wrap (w64 (x4970 + x4972))).fdiv (2 ^ 1))) + x4971)) - out5706))), (181, .bool (decide (out5706 < x4971)))] w5729 (by kernel_rfl) ?_
              rcases gx_bif hm with ⟨hc5736, hm⟩ | ⟨hc5736, hm⟩
              · refine W_known 181 true (by kernel_rfl) hc5736 ?_
                refine W_run 4 [(0, .slice p4966 x4964.length c4967), (1, .int .i64 x4970), (2, .int .i64 x4971), (3, .int .i64 x4972), (4, .func (.func 90) #[] #[]), (18, .int .i64 (w64 ((IntKind.u64.wrap (w64 (x4970 + x4972))).fdiv (2 ^ 1)))), (20, .int .i64 out5706), (24, .int .i64 (w64 ((w64 ((w64 ((IntKind.u64.wrap (w64 (x4970 + x4972))).fdiv (2 ^ 1))) + x4971)) - out5706))), (185, .bool (decide (x4971 < (w64 ((w64 ((w64 ((IntKind.u64.wrap (w64 (x4970 + x4972))).fdiv (2 ^ 1))) + x4971)) - out5706)))))] w5729 (by kernel_rfl) ?_
                refine W_nil ?_
                obtain rfl := Option.some.inj hm
                exact N_meet fun a ha => ⟨M5730.pick [0] (by kernel_rfl), ha.sub (by kernel_rfl)⟩
              · refine W_known 181 false (by kernel_rfl) hc5736 ?_
                refine W_run 4 [(0, .slice p4966 x4964.length c4967), (1, .int .i64 x4970), (2, .int .i64 x4971), (3, .int .i64 x4972), (4, .func (.func 90) #[] #[]), (18, .int .i64 (w64 ((IntKind.u64.wrap (w64 (x4970 + x4972))).fdiv (2 ^ 1)))), (20, .int .i64 out5706), (24, .int .i64 (w64 ((w64 ((w64 ((IntKind.u64.wrap (w64 (x4970 + x4972))).fdiv (2 ^ 1))) + x4971)) - out5706))), (185, .bool false)] w5729 (by kernel_rfl) ?_
                refine W_nil ?_
                obtain rfl := Option.some.inj hm
                exact N_meet fun a ha => ⟨M5730.pick [0] (by kernel_rfl), ha.sub (by kernel_rfl)⟩
            · intro a5739 w5737 ⟨M5738, hS5740⟩
              refine N_use hS5740 ?_
              have hm := hm5735
              refine N_then ?_
              obtain ⟨o6290, ho6291, hm6292⟩ := gx_bind hm
              refine G_meet (fun a w' => ∃ (sg6293 : Seg), ownS encRegion o6290 p4966 c4967 sg6293 ∧ o6290.length = x4964.length ∧ Mem (idsOf [sg4968]) w w' [sg6293] ∧ Sat Try.f97.ntmps [(0, .slice p4966 o6290.length c4967), (1, .int .i64 x4970), (3, .int .i64 x4972), (4, .func (.func 90) #[] #[]), (18, .int .i64 (w64 ((IntKind.u64.wrap (w64 (x4970 + x4972))).fdiv (2 ^ 1)))), (20, .int .i64 out5706), (24, .int .i64 (w64 ((w64 ((w64 ((IntKind.u64.wrap (w64 (x4970 + x4972))).fdiv (2 ^ 1))) + x4971)) - out5706)))] a) ?_ ?_
              · have hm := ho6291
                rcases gx_bif hm with ⟨hc6296, hm⟩ | ⟨hc6296, hm⟩
                · refine G_cond_t (b := o5733) hc6296 (by kernel_rfl) ?_
                  refine G_region ?_
                  refine W_run 5 [(0, .slice p4966 x4964.length c4967), (1, .int .i64 x4970), (3, .int .i64 x4972), (4, .func (.func 90) #[] #[]), (18, .int .i64 (w64 ((IntKind.u64.wrap (w64 (x4970 + x4972))).fdiv (2 ^ 1)))), (20, .int .i64 out5706), (24, .int .i64 (w64 ((w64 ((w64 ((IntKind.u64.wrap (w64 (x4970 + x4972))).fdiv (2 ^ 1))) + x4971)) - out5706))), (186, .slice p4966 x4964.length c4967), (187, .int .i64 out5706), (188, .int .i64 x4971), (189, .int .i64 (w64 ((w64 ((w64 ((IntKind.u64.wrap (w64 (x4970 + x4972))).fdiv (2 ^ 1))) + x4971)) - out5706))), (190, .func (.func 90) #[] #[])] w5737 (by kernel_rfl) ?_
                  obtain ⟨r6297, hr6297, hm⟩ := gx_bind hm
                  refine W_call 98 #[.slice p4966 x4964.length c4967, .int .i64 out5706, .int .i64 x4971, .int .i64 (w64 ((w64 ((w64 ((IntKind.u64.wrap (w64 (x4970 + x4972))).fdiv (2 ^ 1))) + x4971)) - out5706)), .func (.func 90) #[] #[]] (by kernel_rfl) (by kernel_rfl) ?_
                  refine (c_slices_rotateCmpFunc_98__i_asMap_1 w5737 x4964 p4966 c4967 sg4968 ho4969 out5706 x4971 (w64 ((w64 ((w64 ((IntKind.u64.wrap (w64 (x4970 + x4972))).fdiv (2 ^ 1))) + x4971)) - out5706)) (M5738.hasPick [0]) (M5738.nodupPick [0] (by kernel_rfl)) hr6297).mono ?_
                  rintro e_ w6301 ⟨sg6298, rfl, ho6299, hl6300, K6302⟩
                  have M6303 := M5738.callF' [0] [] (by kernel_rfl) K6302
                  refine ⟨_, rfl, ?_⟩
                  refine W_conv 0 (.slice p4966 x4964.length c4967) (.slice p4966 r6297.length c4967) (by kernel_rfl) (by first | rw [hl6300] | rw [hl6300]) ?_
                  refine W_conv 186 (.slice p4966 x4964.length c4967) (.slice p4966 r6297.length c4967) (by kernel_rfl) (by first | rw [hl6300] | rw [hl6300]) ?_
                  refine W_nil ?_
                  obtain rfl := Option.some.inj hm
                  exact N_meet fun a ha => ⟨sg6298, ho6299, (hl6300.trans rfl), M6303.pick [0] (by kernel_rfl), ha.sub (by kernel_rfl)⟩
                · refine G_cond_f (b := o5733) hc6296 (by kernel_rfl) ?_
                  refine G_skip ?_
                  obtain rfl := Option.some.inj hm
                  exact N_meet fun a ha => ⟨sg4968, ho4969, rfl, M5738.pick [0] (by kernel_rfl), ha.sub (by kernel_rfl)⟩
              · intro a6306 w6304 ⟨sg6293, ho6294, hl6295, M6305, hS6307⟩
                refine N_use hS6307 ?_
                have hm := hm6292
                refine N_then ?_
                refine G_seq ?_
                refine G_seq ?_
                obtain ⟨o6309, ho6310, hm6311⟩ := gx_bind hm
                refine G_meet (fun a w' => Mem (idsOf [sg4968]) w w' [sg6293] ∧ Sat Try.f97.ntmps [(0, .slice p4966 o6290.length c4967), (1, .int .i64 x4970), (3, .int .i64 x4972), (4, .func (.func 90) #[] #[]), (18, .int .i64 (w64 ((IntKind.u64.wrap (w64 (x4970 + x4972))).fdiv (2 ^ 1)))), (20, .int .i64 out5706), (24, .int .i64 (w64 ((w64 ((w64 ((IntKind.u64.wrap (w64 (x4970 + x4972))).fdiv (2 ^ 1))) + x4971)) - out5706))), (199, .bool o6309)] a) ?_ ?_
                · have hm := ho6310
                  refine G_region ?_
                  refine W_run 4 [(0, .slice p4966 o6290.length c4967), (1, .int .i64 x4970), (3, .int .i64 x4972), (4, .func (.func 90) #[] #[]), (18, .int .i64 (w64 ((IntKind.u64.wrap (w64 (x4970 + x4972))).fdiv (2 ^ 1)))), (20, .int .i64 out5706), (24, .int .i64 (w64 ((w64 ((w64 ((IntKind.u64.wrap (w64 (x4970 + x4972))).fdiv (2 ^ 1))) + x4971)) - out5706))), (195, .bool (decide (x4970 < out5706)))] w6304 (by kernel_rfl) ?_
                  rcases gx_bif hm with ⟨hc6312, hm⟩ | ⟨hc6312, hm⟩
                  · refine W_known 195 true (by kernel_rfl) hc6312 ?_
                    refine W_run 4 [(0, .slice p4966 o6290.length c4967), (1, .int .i64 x4970), (3, .int .i64 x4972), (4, .func (.func 90) #[] #[]), (18, .int .i64 (w64 ((IntKind.u64.wrap (w64 (x4970 + x4972))).fdiv (2 ^ 1)))), (20, .int .i64 out5706), (24, .int .i64 (w64 ((w64 ((w64 ((IntKind.u64.wrap (w64 (x4970 + x4972))).fdiv (2 ^ 1))) + x4971)) - out5706))), (199, .bool (decide (out5706 < (w64 ((IntKind.u64.wrap (w64 (x4970 + x4972))).fdiv (2 ^ 1))))))] w6304 (by kernel_rfl) ?_
                    refine W_nil ?_
                    obtain rfl := Option.some.inj hm
                    exact N_meet fun a ha => ⟨M6305.pick [0] (by kernel_rfl), ha.sub (by kernel_rfl)⟩
                  · refine W_known 195 false (by kernel_rfl) hc6312 ?_
                    refine W_run 4 [(0, .slice p4966 o6290.length c4967), (1, .int .i64 x4970), (3, .int .i64 x4972), (4, .func (.func 90) #[] #[]), (18, .int .i64 (w64 ((IntKind.u64.wrap (w64 (x4970 + x4972))).fdiv (2 ^ 1)))), (20, .int .i64 out5706), (24, .int .i64 (w64 ((w64 ((w64 ((IntKind.u64.wrap (w64 (x4970 + x4972))).fdiv (2 ^ 1))) + x4971)) - out5706))), (199, .bool false)] w6304 (by kernel_rfl) ?_
                    refine W_nil ?_
                    obtain rfl := Option.some.inj hm
                    exact N_meet fun a ha => ⟨M6305.pick [0] (by kernel_rfl), ha.sub (by kernel_rfl)⟩
                · intro a6315 w6313 ⟨M6314, hS6316⟩
                  refine N_use hS6316 ?_
                  have hm := hm6311
                  refine N_then ?_
                  obtain ⟨o6325, ho6326, hm6327⟩ := gx_bind hm
                  refine G_meet (fun a w' => ∃ (sg6328 : Seg), ownS encRegion o6325 p4966 c4967 sg6328 ∧ o6325.length = x4964.length ∧ Mem (idsOf [sg4968]) w w' [sg6328] ∧ Sat Try.f97.ntmps [(0, .slice p4966 o6325.length c4967), (3, .int .i64 x4972), (4, .func (.func 90) #[] #[]), (18, .int .i64 (w64 ((IntKind.u64.wrap (w64 (x4970 + x4972))).fdiv (2 ^ 1)))), (24, .int .i64 (w64 ((w64 ((w64 ((IntKind.u64.wrap (w64 (x4970 + x4972))).fdiv (2 ^ 1))) + x4971)) - out5706)))] a) ?_ ?_
                  · have hm := ho6326
                    rcases gx_bif hm with ⟨hc6331, hm⟩ | ⟨hc6331, hm⟩
                    · refine G_cond_t (b := o6309) hc6331 (by kernel_rfl) ?_
                      refine G_region ?_
                      refine W_run 5 [(0, .slice p4966 o6290.length c4967), (3, .int .i64 x4972), (4, .func (.func 90) #[] #[]), (18, .int .i64 (w64 ((IntKind.u64.wrap (w64 (x4970 + x4972))).fdiv (2 ^ 1)))), (24, .int .i64 (w64 ((w64 ((w64 ((IntKind.u64.wrap (w64 (x4970 + x4972))).fdiv (2 ^ 1))) + x4971)) - out5706))), (200, .slice p4966 o6290.length c4967), (201, .int .i64 x4970), (202, .int .i64 out5706), (203, .int .i64 (w64 ((IntKind.u64.wrap (w64 (x4970 + x4972))).fdiv (2 ^ 1)))), (204, .func (.func 90) #[] #[])] w6313 (by kernel_rfl) ?_
                      obtain ⟨r6332, hr6332, hm⟩ := gx_bind hm
                      refine W_call 97 #[.slice p4966 o6290.length c4967, .int .i64 x4970, .int .i64 out5706, .int .i64 (w64 ((IntKind.u64.wrap (w64 (x4970 + x4972))).fdiv (2 ^ 1))), .func (.func 90) #[] #[]] (by kernel_rfl) (by kernel_rfl) ?_
                      refine (ih_ w6313 o6290 p4966 c4967 sg6293 ho6294 x4970 out5706 (w64 ((IntKind.u64.wrap (w64 (x4970 + x4972))).fdiv (2 ^ 1))) (M6314.hasPick [0]) (M6314.nodupPick [0] (by kernel_rfl)) hr6332).mono ?_
                      rintro e_ w6336 ⟨sg6333, rfl, ho6334, hl6335, K6337⟩
                      have M6338 := M6314.callF' [0] [] (by kernel_rfl) K6337
                      refine ⟨_, rfl, ?_⟩
                      refine W_conv 0 (.slice p4966 o6290.length c4967) (.slice p4966 r6332.length c4967) (by kernel_rfl) (by first | rw [hl6335] | rw [hl6335]) ?_
                      refine W_conv 200 (.slice p4966 o6290.length c4967) (.slice p4966 r6332.length c4967) (by kernel_rfl) (by first | rw [hl6335] | rw [hl6335]) ?_
                      refine W_nil ?_
                      obtain rfl := Option.some.inj hm
                      exact N_meet fun a ha => ⟨sg6333, ho6334, (hl6335.trans hl6295), M6338.pick [0] (by kernel_rfl), ha.sub (by kernel_rfl)⟩
                    · refine G_cond_f (b := o6309) hc6331 (by kernel_rfl) ?_
                      refine G_skip ?_
                      obtain rfl := Option.some.inj hm
                      exact N_meet fun a ha => ⟨sg6293, ho6294, hl6295, M6314.pick [0] (by kernel_rfl), ha.sub (by kernel_rfl)⟩
                  · intro a6341 w6339 ⟨sg6328, ho6329, hl6330, M6340, hS6342⟩
                    refine N_use hS6342 ?_
                    have hm := hm6327
                    refine N_then ?_
                    refine G_seq ?_
                    obtain ⟨o6344, ho6345, hm6346⟩ := gx_bind hm
                    refine G_meet (fun a w' => Mem (idsOf [sg4968]) w w' [sg6328] ∧ Sat Try.f97.ntmps [(0, .slice p4966 o6325.length c4967), (3, .int .i64 x4972), (4, .func (.func 90) #[] #[]), (18, .int .i64 (w64 ((IntKind.u64.wrap (w64 (x4970 + x4972))).fdiv (2 ^ 1)))), (24, .int .i64 (w64 ((w64 ((w64 ((IntKind.u64.wrap (w64 (x4970 + x4972))).fdiv (2 ^ 1))) + x4971)) - out5706))), (213, .bool o6344)] a) ?_ ?_
                    · have hm := ho6345
                      refine G_region ?_
                      refine W_run 4 [(0, .slice p4966 o6325.length c4967), (3, .int .i64 x4972), (4, .func (.func 90) #[] #[]), (18, .int .i64 (w64 ((IntKind.u64.wrap (w64 (x4970 + x4972))).fdiv (2 ^ 1)))), (24, .int .i64 (w64 ((w64 ((w64 ((IntKind.u64.wrap (w64 (x4970 + x4972))).fdiv (2 ^ 1))) + x4971)) - out5706))), (209, .bool (decide ((w64 ((IntKind.u64.wrap (w64 (x4970 + x4972))).fdiv (2 ^ 1))) < (w64 ((w64 ((w64 ((IntKind.u64.wrap (w64 (x4970 + x4972))).fdiv (2 ^ 1))) + x4971)) - out5706)))))] w6339 (by kernel_rfl) ?_
                      rcases gx_bif hm with ⟨hc6347, hm⟩ | ⟨hc6347, hm⟩
                      · refine W_known 209 true (by kernel_rfl) hc6347 ?_
                        refine W_run 4 [(0, .slice p4966 o6325.length c4967), (3, .int .i64 x4972), (4, .func (.func 90) #[] #[]), (18, .int .i64 (w64 ((IntKind.u64.wrap (w64 (x4970 + x4972))).fdiv (2 ^ 1)))), (24, .int .i64 (w64 ((w64 ((w64 ((IntKind.u64.wrap (w64 (x4970 + x4972))).fdiv (2 ^ 1))) + x4971)) - out5706))), (213, .bool (decide ((w64 ((w64 ((w64 ((IntKind.u64.wrap (w64 (x4970 + x4972))).fdiv (2 ^ 1))) + x4971)) - out5706)) < x4972)))] w6339 (by kernel_rfl) ?_
                        refine W_nil ?_
                        obtain rfl := Option.some.inj hm
                        exact N_meet fun a ha => ⟨M6340.pick [0] (by kernel_rfl), ha.sub (by kernel_rfl)⟩
                      · refine W_known 209 false (by kernel_rfl) hc6347 ?_
                        refine W_run 4 [(0, .slice p4966 o6325.length c4967), (3, .int .i64 x4972), (4, .func (.func 90) #[] #[]), (18, .int .i64 (w64 ((IntKind.u64.wrap (w64 (x4970 + x4972))).fdiv (2 ^ 1)))), (24, .int .i64 (w64 ((w64 ((w64 ((IntKind.u64.wrap (w64 (x4970 + x4972))).fdiv (2 ^ 1))) + x4971)) - out5706))), (213, .bool false)] w6339 (by kernel_rfl) ?_
                        refine W_nil ?_
                        obtain rfl := Option.some.inj hm
                        exact N_meet fun a ha => ⟨M6340.pick [0] (by kernel_rfl), ha.sub (by kernel_rfl)⟩
                    · intro a6350 w6348 ⟨M6349, hS6351⟩
                      refine N_use hS6351 ?_
                      have hm := hm6346
                      refine N_then ?_
                      obtain ⟨o6360, ho6361, hm6362⟩ := gx_bind hm
                      refine G_meet (fun a w' => ∃ (sg6363 : Seg), ownS encRegion o6360 p4966 c4967 sg6363 ∧ o6360.length = x4964.length ∧ Mem (idsOf [sg4968]) w w' [sg6363] ∧ Sat Try.f97.ntmps [] a) ?_ ?_
                      · have hm := ho6361
                        rcases gx_bif hm with ⟨hc6366, hm⟩ | ⟨hc6366, hm⟩
                        · refine G_cond_t (b := o6344) hc6366 (by kernel_rfl) ?_
                          refine G_region ?_
                          refine W_run 5 [(214, .slice p4966 o6325.length c4967), (215, .int .i64 (w64 ((IntKind.u64.wrap (w64 (x4970 + x4972))).fdiv (2 ^ 1)))), (216, .int .i64 (w64 ((w64 ((w64 ((IntKind.u64.wrap (w64 (x4970 + x4972))).fdiv (2 ^ 1))) + x4971)) - out5706))), (217, .int .i64 x4972), (218, .func (.func 90) #[] #[])] w6348 (by kernel_rfl) ?_
                          obtain ⟨r6367, hr6367, hm⟩ := gx_bind hm
                          refine W_call 97 #[.slice p4966 o6325.length c4967, .int .i64 (w64 ((IntKind.u64.wrap (w64 (x4970 + x4972))).fdiv (2 ^ 1))), .int .i64 (w64 ((w64 ((w64 ((IntKind.u64.wrap (w64 (x4970 + x4972))).fdiv (2 ^ 1))) + x4971)) - out5706)), .int .i64 x4972, .func (.func 90) #[] #[]] (by kernel_rfl) (by kernel_rfl) ?_
                          refine (ih_ w6348 o6325 p4966 c4967 sg6328 ho6329 (w64 ((IntKind.u64.wrap (w64 (x4970 + x4972))).fdiv (2 ^ 1))) (w64 ((w64 ((w64 ((IntKind.u64.wrap (w64 (x4970 + x4972))).fdiv (2 ^ 1))) + x4971)) - out5706)) x4972 (M6349.hasPick [0]) (M6349.nodupPick [0] (by kernel_rfl)) hr6367).mono ?_
                          rintro e_ w6371 ⟨sg6368, rfl, ho6369, hl6370, K6372⟩
                          have M6373 := M6349.callF' [0] [] (by kernel_rfl) K6372
                          refine ⟨_, rfl, ?_⟩
                          refine W_conv 214 (.slice p4966 o6325.length c4967) (.slice p4966 r6367.length c4967) (by kernel_rfl) (by first | rw [hl6370] | rw [hl6370]) ?_
                          refine W_nil ?_
                          obtain rfl := Option.some.inj hm
                          exact N_meet fun a ha => ⟨sg6368, ho6369, (hl6370.trans hl6330), M6373.pick [0] (by kernel_rfl), ha.sub (by kernel_rfl)⟩
                        · refine G_cond_f (b := o6344) hc6366 (by kernel_rfl) ?_
                          refine G_skip ?_
                          obtain rfl := Option.some.inj hm
                          exact N_meet fun a ha => ⟨sg6328, ho6329, hl6330, M6349.pick [0] (by kernel_rfl), ha.sub (by kernel_rfl)⟩
                      · intro a6376 w6374 ⟨sg6363, ho6364, hl6365, M6375, hS6377⟩
                        refine N_use hS6377 ?_
                        have hm := hm6362
                        obtain rfl := Option.some.inj hm
                        refine N_end [] (RVs_nil) ?_
                        exact ⟨sg6363, rfl, ho6364, hl6365, M6375.pick [0] (by kernel_rfl)⟩
theorem c_slices_stableCmpFunc_94__i_asMap_1 (w : World) (x4815 : List Region) (p4817 : Option Addr) (c4818 : Nat) (sg4819 : Seg) (ho4820 : ownS encRegion x4815 p4817 c4818 sg4819) (x4821 : Int) (hA : ∀ q ∈ List.flatten [sg4819], w.heap[q.1]? = some q.2) (hN : (idsOf [sg4819]).Nodup) {r : (List Region)} (hm : M.slices_stableCmpFunc_94__i_asMap_1 x4815 x4821 = some r) :
    Calls Try.prog 94 #[.slice p4817 x4815.length c4818, .int .i64 x4821, .func (.func 90) #[] #[]] w fun e w' => ∃ (sg4822 : Seg), e = .returned (.tuple #[]) ∧ ownS encRegion r p4817 c4818 sg4822 ∧ r.length = x4815.length ∧ Mem (idsOf [sg4819]) w w' [sg4822] := by
  unfold M.slices_stableCmpFunc_94__i_asMap_1 at hm
  refine C_enter Try.func94 rfl (by kernel_rfl) ?_
  have M0 := Mem.start' w [sg4819] hA hN
  refine G_seq ?_
  refine G_region ?_
  refine W_run 1 [(0, .slice p4817 x4815.length c4818), (1, .int .i64 x4821), (2, .func (.func 90) #[] #[]), (6, .int .i64 20)] w (by kernel_rfl) ?_
  refine W_nil ?_
  refine N_then ?_
  refine G_seq ?_
  refine G_region ?_
  refine W_run 3 [(0, .slice p4817 x4815.length c4818), (1, .int .i64 x4821), (2, .func (.func 90) #[] #[]), (6, .int .i64 20), (7, .int .i64 0), (8, .int .i64 20)] w (by kernel_rfl) ?_
  refine W_nil ?_
  refine N_then ?_
  refine G_seq ?_
  obtain ⟨out4849, hw4850, hmo4851⟩ := gx_bind hm
  refine G_meet (fun a w' => ∃ (sg4856 : Seg), ownS encRegion out4849.2 p4817 c4818 sg4856 ∧ out4849.2.length = x4815.length ∧ Mem (idsOf [sg4819]) w w' [sg4856] ∧ Sat Try.f94.ntmps [(0, .slice p4817 out4849.2.length c4818), (1, .int .i64 x4821), (2, .func (.func 90) #[] #[]), (6, .int .i64 20), (7, .int .i64 out4849.1)] a) ?_ ?_
  · refine G_block ?_
    refine G_while (σ := Int × Int × List Region) (ρ := Int × List Region) (fun s4842 a w' => ∃ (sg4852 : Seg), ownS encRegion s4842.2.2 p4817 c4818 sg4852 ∧ s4842.2.2.length = x4815.length ∧ Mem (idsOf [sg4819]) w w' [sg4852] ∧ Sat Try.f94.ntmps [(0, .slice p4817 s4842.2.2.length c4818), (1, .int .i64 x4821), (2, .func (.func 90) #[] #[]), (6, .int .i64 20), (7, .int .i64 s4842.1), (8, .int .i64 s4842.2.1)] a) hw4850 (fun a ha => ⟨sg4819, ho4820, rfl, M0.pick [0] (by kernel_rfl), ha.sub (by kernel_rfl)⟩) ?_
    clear hm
    intro s4842 x4843 hm hout4844 a4845 w4846 ⟨sg4852, ho4853, hl4854, M4847, hS4848⟩
    refine G_use hS4848 ?_
    refine G_seq ?_
    refine G_seq ?_
    refine G_region ?_
    refine W_run 3 [(0, .slice p4817 s4842.2.2.length c4818), (1, .int .i64 x4821), (2, .func (.func 90) #[] #[]), (6, .int .i64 20), (7, .int .i64 s4842.1), (8, .int .i64 s4842.2.1), (13, .bool (decide (s4842.2.1 ≤ x4821)))] w4846 (by kernel_rfl) ?_
    refine W_nil ?_
    refine N_then ?_
    rcases gx_bif hm with ⟨hc4859, hm⟩ | ⟨hc4859, hm⟩
    · refine G_cond_t (b := (decide (s4842.2.1 ≤ x4821))) hc4859 (by kernel_rfl) ?_
      refine G_skip ?_
      refine N_then ?_
      refine G_block ?_
      refine G_seq ?_
      refine G_region ?_
      refine W_run 4 [(0, .slice p4817 s4842.2.2.length c4818), (1, .int .i64 x4821), (2, .func (.func 90) #[] #[]), (6, .int .i64 20), (8, .int .i64 s4842.2.1), (14, .slice p4817 s4842.2.2.length c4818), (15, .int .i64 s4842.1), (16, .int .i64 s4842.2.1), (17, .func (.func 90) #[] #[])] w4846 (by kernel_rfl) ?_
      obtain ⟨r4860, hr4860, hm⟩ := gx_bind hm
      refine W_call 96 #[.slice p4817 s4842.2.2.length c4818, .int .i64 s4842.1, .int .i64 s4842.2.1, .func (.func 90) #[] #[]] (by kernel_rfl) (by kernel_rfl) ?_
      refine (c_slices_insertionSortCmpFunc_96__i_asMap_1 w4846 s4842.2.2 p4817 c4818 sg4852 ho4853 s4842.1 s4842.2.1 (M4847.hasPick [0]) (M4847.nodupPick [0] (by kernel_rfl)) hr4860).mono ?_
      rintro e_ w4864 ⟨sg4861, rfl, ho4862, hl4863, K4865⟩
      have M4866 := M4847.callF' [0] [] (by kernel_rfl) K4865
      refine ⟨_, rfl, ?_⟩
      refine W_conv 0 (.slice p4817 s4842.2.2.length c4818) (.slice p4817 r4860.length c4818) (by kernel_rfl) (by first | rw [hl4863] | rw [hl4863]) ?_
      refine W_conv 14 (.slice p4817 s4842.2.2.length c4818) (.slice p4817 r4860.length c4818) (by kernel_rfl) (by first | rw [hl4863] | rw [hl4863]) ?_
      refine W_nil ?_
      refine N_then ?_
      refine G_seq ?_
      refine G_region ?_
      refine W_run 2 [(0, .slice p4817 r4860.length c4818), (1, .int .i64 x4821), (2, .func (.func 90) #[] #[]), (6, .int .i64 20), (7, .int .i64 s4842.2.1), (8, .int .i64 s4842.2.1)] w4864 (by kernel_rfl) ?_
      refine W_nil ?_
      refine N_then ?_
      refine G_region ?_
      refine W_run 4 [(0, .slice p4817 r4860.length c4818), (1, .int .i64 x4821), (2, .func (.func 90) #[] #[]), (6, .int .i64 20), (7, .int .i64 s4842.2.1), (8, .int .i64 (w64 (s4842.2.1 + 20)))] w4864 (by kernel_rfl) ?_
      refine W_nil ?_
      refine N_block ?_
      obtain rfl := Option.some.inj hm
      exact N_loop fun a ha => ⟨_, rfl, sg4861, ho4862, (hl4863.trans hl4854), M4866.pick [0] (by kernel_rfl), ha.sub (by kernel_rfl)⟩
    · refine G_cond_f (b := (decide (s4842.2.1 ≤ x4821))) hc4859 (by kernel_rfl) ?_
      refine G_exit ?_
      refine N_then_exit ?_
      refine N_then_exit ?_
      refine N_block_eq ?_
      obtain rfl := Option.some.inj hm
      obtain rfl := hout4844 _ rfl
      exact N_meet fun a ha => ⟨sg4852, ho4853, hl4854, M4847.pick [0] (by kernel_rfl), ha.sub (by kernel_rfl)⟩
  · intro a4867 w4868 ⟨sg4856, ho4857, hl4858, M4869, hS4870⟩
    refine N_use hS4870 ?_
    have hm := hmo4851
    refine N_then ?_
    refine G_seq ?_
    refine G_region ?_
    refine W_run 4 [(0, .slice p4817 out4849.2.length c4818), (1, .int .i64 x4821), (2, .func (.func 90) #[] #[]), (6, .int .i64 20), (23, .slice p4817 out4849.2.length c4818), (24, .int .i64 out4849.1), (25, .int .i64 x4821), (26, .func (.func 90) #[] #[])] w4868 (by kernel_rfl) ?_
    obtain ⟨r4871, hr4871, hm⟩ := gx_bind hm
    refine W_call 96 #[.slice p4817 out4849.2.length c4818, .int .i64 out4849.1, .int .i64 x4821, .func (.func 90) #[] #[]] (by kernel_rfl) (by kernel_rfl) ?_
    refine (c_slices_insertionSortCmpFunc_96__i_asMap_1 w4868 out4849.2 p4817 c4818 sg4856 ho4857 out4849.1 x4821 (M4869.hasPick [0]) (M4869.nodupPick [0] (by kernel_rfl)) hr4871).mono ?_
    rintro e_ w4875 ⟨sg4872, rfl, ho4873, hl4874, K4876⟩
    have M4877 := M4869.callF' [0] [] (by kernel_rfl) K4876
    refine ⟨_, rfl, ?_⟩
    refine W_conv 0 (.slice p4817 out4849.2.length c4818) (.slice p4817 r4871.length c4818) (by kernel_rfl) (by first | rw [hl4874] | rw [hl4874]) ?_
    refine W_conv 23 (.slice p4817 out4849.2.length c4818) (.slice p4817 r4871.length c4818) (by kernel_rfl) (by first | rw [hl4874] | rw [hl4874]) ?_
    refine W_nil ?_
    refine N_then ?_
    obtain ⟨out6536, hw6537, hmo6538⟩ := gx_bind hm
    refine G_meet (fun a w' => ∃ (sg6543 : Seg), ownS encRegion out6536 p4817 c4818 sg6543 ∧ out6536.length = x4815.length ∧ Mem (idsOf [sg4819]) w w' [sg6543] ∧ Sat Try.f94.ntmps [] a) ?_ ?_
    · refine G_block ?_
      refine G_while (σ := Int × List Region) (ρ := List Region) (fun s6529 a w' => ∃ (sg6539 : Seg), ownS encRegion s6529.2 p4817 c4818 sg6539 ∧ s6529.2.length = x4815.length ∧ Mem (idsOf [sg4819]) w w' [sg6539] ∧ Sat Try.f94.ntmps [(0, .slice p4817 s6529.2.length c4818), (1, .int .i64 x4821), (2, .func (.func 90) #[] #[]), (6, .int .i64 s6529.1)] a) hw6537 (fun a ha => ⟨sg4872, ho4873, (hl4874.trans hl4858), M4877.pick [0] (by kernel_rfl), ha.sub (by kernel_rfl)⟩) ?_
      clear hm
      intro s6529 x6530 hm hout6531 a6532 w6533 ⟨sg6539, ho6540, hl6541, M6534, hS6535⟩
      refine G_use hS6535 ?_
      refine G_seq ?_
      refine G_seq ?_
      refine G_region ?_
      refine W_run 3 [(0, .slice p4817 s6529.2.length c4818), (1, .int .i64 x4821), (2, .func (.func 90) #[] #[]), (6, .int .i64 s6529.1), (30, .bool (decide (s6529.1 < x4821)))] w6533 (by kernel_rfl) ?_
      refine W_nil ?_
      refine N_then ?_
      rcases gx_bif hm with ⟨hc6546, hm⟩ | ⟨hc6546, hm⟩
      · refine G_cond_t (b := (decide (s6529.1 < x4821))) hc6546 (by kernel_rfl) ?_
        refine G_skip ?_
        refine N_then ?_
        refine G_block ?_
        refine G_seq ?_
        refine G_region ?_
        refine W_run 4 [(0, .slice p4817 s6529.2.length c4818), (1, .int .i64 x4821), (2, .func (.func 90) #[] #[]), (6, .int .i64 s6529.1), (7, .int .i64 0), (8, .int .i64 (w64 (2 * s6529.1)))] w6533 (by kernel_rfl) ?_
        refine W_nil ?_
        refine N_then ?_
        refine G_seq ?_
        obtain ⟨out6573, hw6574, hmo6575⟩ := gx_bind hm
        refine G_meet (fun a w' => ∃ (sg6580 : Seg), ownS encRegion out6573.2 p4817 c4818 sg6580 ∧ out6573.2.length = x4815.length ∧ Mem (idsOf [sg4819]) w w' [sg6580] ∧ Sat Try.f94.ntmps [(0, .slice p4817 out6573.2.length c4818), (1, .int .i64 x4821), (2, .func (.func 90) #[] #[]), (6, .int .i64 s6529.1), (7, .int .i64 out6573.1)] a) ?_ ?_
        · refine G_block ?_
          refine G_while (σ := Int × Int × List Region) (ρ := Int × List Region) (fun s6566 a w' => ∃ (sg6576 : Seg), ownS encRegion s6566.2.2 p4817 c4818 sg6576 ∧ s6566.2.2.length = x4815.length ∧ Mem (idsOf [sg4819]) w w' [sg6576] ∧ Sat Try.f94.ntmps [(0, .slice p4817 s6566.2.2.length c4818), (1, .int .i64 x4821), (2, .func (.func 90) #[] #[]), (6, .int .i64 s6529.1), (7, .int .i64 s6566.1), (8, .int .i64 s6566.2.1)] a) hw6574 (fun a ha => ⟨sg6539, ho6540, hl6541, M6534.pick [0] (by kernel_rfl), ha.sub (by kernel_rfl)⟩) ?_
          clear hm
          intro s6566 x6567 hm hout6568 a6569 w6570 ⟨sg6576, ho6577, hl6578, M6571, hS6572⟩
          refine G_use hS6572 ?_
          refine G_seq ?_
          refine G_seq ?_
          refine G_region ?_
          refine W_run 3 [(0, .slice p4817 s6566.2.2.length c4818), (1, .int .i64 x4821), (2, .func (.func 90) #[] #[]), (6, .int .i64 s6529.1), (7, .int .i64 s6566.1), (8, .int .i64 s6566.2.1), (35, .bool (decide (s6566.2.1 ≤ x4821)))] w6570 (by kernel_rfl) ?_
          refine W_nil ?_
          refine N_then ?_
          rcases gx_bif hm with ⟨hc6583, hm⟩ | ⟨hc6583, hm⟩
          · refine G_cond_t (b := (decide (s6566.2.1 ≤ x4821))) hc6583 (by kernel_rfl) ?_
            refine G_skip ?_
            refine N_then ?_
            refine G_block ?_
            refine G_seq ?_
            refine G_region ?_
            refine W_run 7 [(0, .slice p4817 s6566.2.2.length c4818), (1, .int .i64 x4821), (2, .func (.func 90) #[] #[]), (6, .int .i64 s6529.1), (8, .int .i64 s6566.2.1), (36, .slice p4817 s6566.2.2.length c4818), (37, .int .i64 s6566.1), (40, .int .i64 (w64 (s6566.1 + s6529.1))), (41, .int .i64 s6566.2.1), (42, .func (.func 90) #[] #[])] w6570 (by kernel_rfl) ?_
            obtain ⟨r6584, hr6584, hm⟩ := gx_bind hm
            refine W_call 97 #[.slice p4817 s6566.2.2.length c4818, .int .i64 s6566.1, .int .i64 (w64 (s6566.1 + s6529.1)), .int .i64 s6566.2.1, .func (.func 90) #[] #[]] (by kernel_rfl) (by kernel_rfl) ?_
            refine (c_slices_symMergeCmpFunc_97__i_asMap_1 gxFuel w6570 s6566.2.2 p4817 c4818 sg6576 ho6577 s6566.1 (w64 (s6566.1 + s6529.1)) s6566.2.1 (M6571.hasPick [0]) (M6571.nodupPick [0] (by kernel_rfl)) hr6584).mono ?_
            rintro e_ w6588 ⟨sg6585, rfl, ho6586, hl6587, K6589⟩
            have M6590 := M6571.callF' [0] [] (by kernel_rfl) K6589
            refine ⟨_, rfl, ?_⟩
            refine W_conv 0 (.slice p4817 s6566.2.2.length c4818) (.slice p4817 r6584.length c4818) (by kernel_rfl) (by first | rw [hl6587] | rw [hl6587]) ?_
            refine W_conv 36 (.slice p4817 s6566.2.2.length c4818) (.slice p4817 r6584.length c4818) (by kernel_rfl) (by first | rw [hl6587] | rw [hl6587]) ?_
            refine W_nil ?_
            refine N_then ?_
            refine G_seq ?_
            refine G_region ?_
            refine W_run 2 [(0, .slice p4817 r6584.length c4818), (1, .int .i64 x4821), (2, .func (.func 90) #[] #[]), (6, .int .i64 s6529.1), (7, .int .i64 s6566.2.1), (8, .int .i64 s6566.2.1)] w6588 (by kernel_rfl) ?_
            refine W_nil ?_
            refine N_then ?_
            refine G_region ?_
            refine W_run 5 [(0, .slice p4817 r6584.length c4818), (1, .int .i64 x4821), (2, .func (.func 90) #[] #[]), (6, .int .i64 s6529.1), (7, .int .i64 s6566.2.1), (8, .int .i64 (w64 (s6566.2.1 + (w64 (2 * s6529.1)))))] w6588 (by kernel_rfl) ?_
            refine W_nil ?_
            refine N_block ?_
            obtain rfl := Option.some.inj hm
            exact N_loop fun a ha => ⟨_, rfl, sg6585, ho6586, (hl6587.trans hl6578), M6590.pick [0] (by kernel_rfl), ha.sub (by kernel_rfl)⟩
          · refine G_cond_f (b := (decide (s6566.2.1 ≤ x4821))) hc6583 (by kernel_rfl) ?_
            refine G_exit ?_
            refine N_then_exit ?_
            refine N_then_exit ?_
            refine N_block_eq ?_
            obtain rfl := Option.some.inj hm
            obtain rfl := hout6568 _ rfl
            exact N_meet fun a ha => ⟨sg6576, ho6577, hl6578, M6571.pick [0] (by kernel_rfl), ha.sub (by kernel_rfl)⟩
        · intro a6591 w6592 ⟨sg6580, ho6581, hl6582, M6593, hS6594⟩
          refine N_use hS6594 ?_
          have hm := hmo6575
          refine N_then ?_
          refine G_seq ?_
          refine G_seq ?_
          refine G_region ?_
          refine W_run 4 [(0, .slice p4817 out6573.2.length c4818), (1, .int .i64 x4821), (2, .func (.func 90) #[] #[]), (6, .int .i64 s6529.1), (7, .int .i64 out6573.1), (9, .int .i64 (w64 (out6573.1 + s6529.1)))] w6592 (by kernel_rfl) ?_
          refine W_nil ?_
          refine N_then ?_
          refine G_seq ?_
          refine G_region ?_
          refine W_run 3 [(0, .slice p4817 out6573.2.length c4818), (1, .int .i64 x4821), (2, .func (.func 90) #[] #[]), (6, .int .i64 s6529.1), (7, .int .i64 out6573.1), (9, .int .i64 (w64 (out6573.1 + s6529.1))), (54, .bool (decide ((w64 (out6573.1 + s6529.1)) < x4821)))] w6592 (by kernel_rfl) ?_
          refine W_nil ?_
          refine N_then ?_
          obtain ⟨o6603, ho6604, hm6605⟩ := gx_bind hm
          refine G_meet (fun a w' => ∃ (sg6606 : Seg), ownS encRegion o6603 p4817 c4818 sg6606 ∧ o6603.length = x4815.length ∧ Mem (idsOf [sg4819]) w w' [sg6606] ∧ Sat Try.f94.ntmps [(0, .slice p4817 o6603.length c4818), (1, .int .i64 x4821), (2, .func (.func 90) #[] #[]), (6, .int .i64 s6529.1)] a) ?_ ?_
          · have hm := ho6604
            rcases gx_bif hm with ⟨hc6609, hm⟩ | ⟨hc6609, hm⟩
            · refine G_cond_t (b := (decide ((w64 (out6573.1 + s6529.1)) < x4821))) hc6609 (by kernel_rfl) ?_
              refine G_region ?_
              refine W_run 5 [(0, .slice p4817 out6573.2.length c4818), (1, .int .i64 x4821), (2, .func (.func 90) #[] #[]), (6, .int .i64 s6529.1), (55, .slice p4817 out6573.2.length c4818), (56, .int .i64 out6573.1), (57, .int .i64 (w64 (out6573.1 + s6529.1))), (58, .int .i64 x4821), (59, .func (.func 90) #[] #[])] w6592 (by kernel_rfl) ?_
              obtain ⟨r6610, hr6610, hm⟩ := gx_bind hm
              refine W_call 97 #[.slice p4817 out6573.2.length c4818, .int .i64 out6573.1, .int .i64 (w64 (out6573.1 + s6529.1)), .int .i64 x4821, .func (.func 90) #[] #[]] (by kernel_rfl) (by kernel_rfl) ?_
              refine (c_slices_symMergeCmpFunc_97__i_asMap_1 gxFuel w6592 out6573.2 p4817 c4818 sg6580 ho6581 out6573.1 (w64 (out6573.1 + s6529.1)) x4821 (M6593.hasPick [0]) (M6593.nodupPick [0] (by kernel_rfl)) hr6610).mono ?_
              rintro e_ w6614 ⟨sg6611, rfl, ho6612, hl6613, K6615⟩
              have M6616 := M6593.callF' [0] [] (by kernel_rfl) K6615
              refine ⟨_, rfl, ?_⟩
              refine W_conv 0 (.slice p4817 out6573.2.length c4818) (.slice p4817 r6610.length c4818) (by kernel_rfl) (by first | rw [hl6613] | rw [hl6613]) ?_
              refine W_conv 55 (.slice p4817 out6573.2.length c4818) (.slice p4817 r6610.length c4818) (by kernel_rfl) (by first | rw [hl6613] | rw [hl6613]) ?_
              refine W_nil ?_
              obtain rfl := Option.some.inj hm
              exact N_meet fun a ha => ⟨sg6611, ho6612, (hl6613.trans hl6582), M6616.pick [0] (by kernel_rfl), ha.sub (by kernel_rfl)⟩
            · refine G_cond_f (b := (decide ((w64 (out6573.1 + s6529.1)) < x4821))) hc6609 (by kernel_rfl) ?_
              refine G_skip ?_
              obtain rfl := Option.some.inj hm
              exact N_meet fun a ha => ⟨sg6580, ho6581, hl6582, M6593.pick [0] (by kernel_rfl), ha.sub (by kernel_rfl)⟩
          · intro a6619 w6617 ⟨sg6606, ho6607, hl6608, M6618, hS6620⟩
            refine N_use hS6620 ?_
            have hm := hm6605
            refine N_then ?_
            refine G_region ?_
            refine W_run 3 [(0, .slice p4817 o6603.length c4818), (1, .int .i64 x4821), (2, .func (.func 90) #[] #[]), (6, .int .i64 (w64 (s6529.1 * 2)))] w6617 (by kernel_rfl) ?_
            refine W_nil ?_
            refine N_block ?_
            obtain rfl := Option.some.inj hm
            exact N_loop fun a ha => ⟨_, rfl, sg6606, ho6607, hl6608, M6618.pick [0] (by kernel_rfl), ha.sub (by kernel_rfl)⟩
      · refine G_cond_f (b := (decide (s6529.1 < x4821))) hc6546 (by kernel_rfl) ?_
        refine G_exit ?_
        refine N_then_exit ?_
        refine N_then_exit ?_
        refine N_block_eq ?_
        obtain rfl := Option.some.inj hm
        obtain rfl := hout6531 _ rfl
        exact N_meet fun a ha => ⟨sg6539, ho6540, hl6541, M6534.pick [0] (by kernel_rfl), ha.sub (by kernel_rfl)⟩
    · intro a6621 w6622 ⟨sg6543, ho6544, hl6545, M6623, hS6624⟩
      refine N_use hS6624 ?_
      have hm := hmo6538
      obtain rfl := Option.some.inj hm
      refine N_end [] (RVs_nil) ?_
      exact ⟨sg6543, rfl, ho6544, hl6545, M6623.pick [0] (by kernel_rfl)⟩
theorem c_slices_SortStableFunc_89__i_asMap_1 (w : World) (x6626 : List Region) (p6628 : Option Addr) (c6629 : Nat) (sg6630 : Seg) (ho6631 : ownS encRegion x6626 p6628 c6629 sg6630) (hA : ∀ q ∈ List.flatten [sg6630], w.heap[q.1]? = some q.2) (hN : (idsOf [sg6630]).Nodup) {r : (List Region)} (hm : M.slices_SortStableFunc_89__i_asMap_1 x6626 = some r) :
    Calls Try.prog 89 #[.slice p6628 x6626.length c6629, .func (.func 90) #[] #[]] w fun e w' => ∃ (sg6632 : Seg), e = .returned (.tuple #[]) ∧ ownS encRegion r p6628 c6629 sg6632 ∧ r.length = x6626.length ∧ Mem (idsOf [sg6630]) w w' [sg6632] := by
  unfold M.slices_SortStableFunc_89__i_asMap_1 at hm
  refine C_enter Try.func89 rfl (by kernel_rfl) ?_
  have M0 := Mem.start' w [sg6630] hA hN
  refine G_region ?_
  refine W_run 4 [(4, .slice p6628 x6626.length c6629), (6, .int .i64 (x6626.length : Int)), (7, .func (.func 90) #[] #[])] w (by kernel_rfl) ?_
  obtain ⟨r6633, hr6633, hm⟩ := gx_bind hm
  refine W_call 94 #[.slice p6628 x6626.length c6629, .int .i64 (x6626.length : Int), .func (.func 90) #[] #[]] (by kernel_rfl) (by kernel_rfl) ?_
  refine (c_slices_stableCmpFunc_94__i_asMap_1 w x6626 p6628 c6629 sg6630 ho6631 (x6626.length : Int) (M0.hasPick [0]) (M0.nodupPick [0] (by kernel_rfl)) hr6633).mono ?_
  rintro e_ w6637 ⟨sg6634, rfl, ho6635, hl6636, K6638⟩
  have M6639 := M0.callF' [0] [] (by kernel_rfl) K6638
  refine ⟨_, rfl, ?_⟩
  refine W_conv 4 (.slice p6628 x6626.length c6629) (.slice p6628 r6633.length c6629) (by kernel_rfl) (by first | rw [hl6636] | rw [hl6636]) ?_
  refine W_nil ?_
  obtain rfl := Option.some.inj hm
  refine N_end [] (RVs_nil) ?_
  exact ⟨sg6634, rfl, ho6635, (hl6636.trans rfl), M6639.pick [0] (by kernel_rfl)⟩
theorem c_i_asMap (w : World) (x3597 : List Region) (p3599 : Option Addr) (c3600 : Nat) (h3601 : rdS encRegion w x3597 p3599 c3600) {r : (List Region) × Bool} (hm : M.i_asMap x3597 = some r) :
    Calls Try.prog 74 #[.slice p3599 x3597.length c3600] w fun e w' => ∃ (p3603 : Option Addr) (c3604 : Nat) (sg3605 : Seg), e = .returned (.tuple #[.slice p3603 r.1.length c3604, .bool r.2]) ∧ ownS encRegion r.1 p3603 c3604 sg3605 ∧ Mem [] w w' [sg3605] := by
  unfold M.i_asMap at hm
  refine C_enter Try.func74 rfl (by kernel_rfl) ?_
  have M0 := Mem.refl [] w
  refine G_seq ?_
  refine G_region ?_
  refine W_run 2 [(0, .slice p3599 x3597.length c3600)] w (by kernel_rfl) ?_
  refine W_nil ?_
  refine N_then ?_
  refine G_seq ?_
  refine G_region ?_
  refine W_lit (E := encRegion) ([] : List Region) 0 [] 59 M0 (by kernel_rfl) (by kernel_rfl) (by kernel_rfl) (by kernel_rfl) (by kernel_rfl) ?_
  intro p3607 c3608 sg3609 w3610 ho3611 M3612
  refine W_run 1 [(5, .slice p3607 ([] : List Region).length c3608), (6, .slice p3599 x3597.length c3600)] w3610 (by kernel_rfl) ?_
  obtain ⟨ap3614, hap3614, hm⟩ := gx_bind hm
  refine W_append (E := encRegion) _ _ _ 32 [.int .i64 0, .int .i64 0, .int .i64 0, .int .i64 0] 0 c3600 M3612 ho3611 (by kernel_rfl) (by kernel_rfl) (by kernel_rfl) rfl (by kernel_rfl) (by kernel_rfl) (by kernel_rfl) (by kernel_rfl) (by kernel_rfl) (by kernel_rfl) (h3601.mem0 M3612) hap3614 ?_
  intro p3615 c3616 sg3617 w3618 ho3619 M3620
  refine W_run 1 [(4, .slice p3615 ap3614.length c3616)] w3618 (by kernel_rfl) ?_
  refine W_nil ?_
  refine N_then ?_
  refine G_seq ?_
  refine G_region ?_
  refine W_run 1 [(4, .slice p3615 ap3614.length c3616), (8, .slice p3615 ap3614.length c3616)] w3618 (by kernel_rfl) ?_
  obtain ⟨r6640, hr6640, hm⟩ := gx_bind hm
  refine W_call 89 #[.slice p3615 ap3614.length c3616, .func (.func 90) #[] #[]] (by kernel_rfl) (by kernel_rfl) ?_
  refine (c_slices_SortStableFunc_89__i_asMap_1 w3618 ap3614 p3615 c3616 sg3617 ho3619 (M3620.hasPick [0]) (M3620.nodupPick [0] (by kernel_rfl)) hr6640).mono ?_
  rintro e_ w6644 ⟨sg6641, rfl, ho6642, hl6643, K6645⟩
  have M6646 := M3620.callF' [0] [] (by kernel_rfl) K6645
  refine ⟨_, rfl, ?_⟩
  refine W_conv 4 (.slice p3615 ap3614.length c3616) (.slice p3615 r6640.length c3616) (by kernel_rfl) (by first | rw [hl6643] | rw [hl6643]) ?_
  refine W_conv 8 (.slice p3615 ap3614.length c3616) (.slice p3615 r6640.length c3616) (by kernel_rfl) (by first | rw [hl6643] | rw [hl6643]) ?_
  refine W_nil ?_
  refine N_then ?_
  refine G_seq ?_
  refine G_seq ?_
  refine G_region ?_
  refine W_run 1 [(4, .slice p3615 r6640.length c3616), (10, .slice p3615 r6640.length c3616)] w6644 (by kernel_rfl) ?_
  obtain ⟨r6647, hr6647, hm⟩ := gx_bind hm
  refine W_call 49 #[.slice p3615 r6640.length c3616] (by kernel_rfl) (by kernel_rfl) ?_
  refine (c_i_IsMap w6644 r6640 p3615 c3616 (ho6642.rd M6646 0 (by kernel_rfl)) hr6647).mono ?_
  rintro e_ w6648 ⟨rfl, K6649⟩
  have M6650 := M6646.call0 K6649
  refine ⟨_, rfl, ?_⟩
  refine W_run 1 [(4, .slice p3615 r6640.length c3616), (12, .bool (!r6647))] w6648 (by kernel_rfl) ?_
  refine W_nil ?_
  refine N_then ?_
  rcases gx_bif hm with ⟨hc6651, hm⟩ | ⟨hc6651, hm⟩
  · refine G_cond_t (b := (!r6647)) hc6651 (by kernel_rfl) ?_
    refine G_seq ?_
    refine G_region ?_
    refine W_run 2 [(2, .slice none 0 0), (3, .bool false)] w6648 (by kernel_rfl) ?_
    refine W_nil ?_
    refine N_then ?_
    refine G_ret ?_
    refine N_then_ret ?_
    obtain rfl := Option.some.inj hm
    refine N_ret [.slice none 0 0, .bool false] (RVs_cons (RV_tmp (by kernel_rfl)) (RVs_cons (RV_tmp (by kernel_rfl)) RVs_nil)) ?_
    exact ⟨none, 0, [], rfl, ownS_nil, M6650.pick [100000] (by kernel_rfl)⟩
  · refine G_cond_f (b := (!r6647)) hc6651 (by kernel_rfl) ?_
    refine G_skip ?_
    refine N_then ?_
    refine G_seq ?_
    refine G_region ?_
    refine W_run 3 [(2, .slice p3615 r6640.length c3616), (3, .bool true)] w6648 (by kernel_rfl) ?_
    refine W_nil ?_
    refine N_then ?_
    refine G_ret ?_
    obtain rfl := Option.some.inj hm
    refine N_ret [.slice p3615 r6640.length c3616, .bool true] (RVs_cons (RV_tmp (by kernel_rfl)) (RVs_cons (RV_tmp (by kernel_rfl)) RVs_nil)) ?_
    exact ⟨p3615, c3616, sg6641, rfl, ho6642, M6650.pick [0] (by kernel_rfl)⟩
theorem c_i_PlaceRegion (w : World) (x3509 : List Region) (p3511 : Option Addr) (c3512 : Nat) (h3513 : rdS encRegion w x3509 p3511 c3512) (x3514 : Int) {r : Int × Bool} (hm : M.i_PlaceRegion x3509 x3514 = some r) :
    Calls Try.prog 33 #[.slice p3511 x3509.length c3512, .int .i64 x3514] w fun e w' => e = .returned (.tuple #[.int .i64 r.1, .bool r.2]) ∧ Mem [] w w' [] := by
  unfold M.i_PlaceRegion at hm
  refine C_enter Try.func33 rfl (by kernel_rfl) ?_
  have M0 := Mem.refl [] w
  refine G_seq ?_
  refine G_region ?_
  refine W_run 2 [(0, .slice p3511 x3509.length c3512), (1, .int .i64 x3514)] w (by kernel_rfl) ?_
  refine W_nil ?_
  refine N_then ?_
  refine G_seq ?_
  refine G_seq ?_
  obtain ⟨o3525, ho3526, hm3527⟩ := gx_bind hm
  refine G_meet (fun a w' => Mem [] w w' [] ∧ Sat Try.f33.ntmps [(0, .slice p3511 x3509.length c3512), (1, .int .i64 x3514), (21, .bool o3525)] a) ?_ ?_
  · have hm := ho3526
    refine G_region ?_
    refine W_run 1 [(0, .slice p3511 x3509.length c3512), (1, .int .i64 x3514), (9, .slice p3511 x3509.length c3512)] w (by kernel_rfl) ?_
    obtain ⟨r3528, hr3528, hm⟩ := gx_bind hm
    refine W_call 49 #[.slice p3511 x3509.length c3512] (by kernel_rfl) (by kernel_rfl) ?_
    refine (c_i_IsMap w x3509 p3511 c3512 (h3513.mem0 M0) hr3528).mono ?_
    rintro e_ w3529 ⟨rfl, K3530⟩
    have M3531 := M0.call0 K3530
    refine ⟨_, rfl, ?_⟩
    refine W_run 2 [(0, .slice p3511 x3509.length c3512), (1, .int .i64 x3514), (12, .bool (!r3528))] w3529 (by kernel_rfl) ?_
    rcases gx_bif hm with ⟨hc3532, hm⟩ | ⟨hc3532, hm⟩
    · refine W_known 12 true (by kernel_rfl) hc3532 ?_
      refine W_run 9 [(0, .slice p3511 x3509.length c3512), (1, .int .i64 x3514), (21, .bool true)] w3529 (by kernel_rfl) ?_
      refine W_nil ?_
      obtain rfl := Option.some.inj hm
      exact N_meet fun a ha => ⟨M3531.pick [] (by kernel_rfl), ha.sub (by kernel_rfl)⟩
    · refine W_known 12 false (by kernel_rfl) hc3532 ?_
      refine W_run 1 [(0, .slice p3511 x3509.length c3512), (1, .int .i64 x3514), (12, .bool false), (13, .int .i64 x3514)] w3529 (by kernel_rfl) ?_
      obtain ⟨r3533, hr3533, hm⟩ := gx_bind hm
      refine W_call 73 #[.int .i64 x3514] (by kernel_rfl) (by kernel_rfl) ?_
      refine (c_i_isSize w3529 x3514 hr3533).mono ?_
      rintro e_ w3534 ⟨rfl, K3535⟩
      have M3536 := M3531.call0 K3535
      refine ⟨_, rfl, ?_⟩
      refine W_run 3 [(0, .slice p3511 x3509.length c3512), (1, .int .i64 x3514), (17, .bool (!r3533))] w3534 (by kernel_rfl) ?_
      rcases gx_bif hm with ⟨hc3537, hm⟩ | ⟨hc3537, hm⟩
      · refine W_known 17 true (by kernel_rfl) hc3537 ?_
        refine W_run 4 [(0, .slice p3511 x3509.length c3512), (1, .int .i64 x3514), (21, .bool true)] w3534 (by kernel_rfl) ?_
        refine W_nil ?_
        obtain rfl := Option.some.inj hm
        exact N_meet fun a ha => ⟨M3536.pick [] (by kernel_rfl), ha.sub (by kernel_rfl)⟩
      · refine W_known 17 false (by kernel_rfl) hc3537 ?_
        refine W_run 4 [(0, .slice p3511 x3509.length c3512), (1, .int .i64 x3514), (21, .bool ((x3509.length : Int) == 6))] w3534 (by kernel_rfl) ?_
        refine W_nil ?_
        obtain rfl := Option.some.inj hm
        exact N_meet fun a ha => ⟨M3536.pick [] (by kernel_rfl), ha.sub (by kernel_rfl)⟩
  · intro a3540 w3538 ⟨M3539, hS3541⟩
    refine N_use hS3541 ?_
    have hm := hm3527
    refine N_then ?_
    rcases gx_bif hm with ⟨hc3542, hm⟩ | ⟨hc3542, hm⟩
    · refine G_cond_t (b := o3525) hc3542 (by kernel_rfl) ?_
      refine G_seq ?_
      refine G_region ?_
      refine W_run 2 [(4, .int .i64 0), (5, .bool false)] w3538 (by kernel_rfl) ?_
      refine W_nil ?_
      refine N_then ?_
      refine G_ret ?_
      refine N_then_ret ?_
      obtain rfl := Option.some.inj hm
      refine N_ret [.int .i64 0, .bool false] (RVs_cons (RV_tmp (by kernel_rfl)) (RVs_cons (RV_tmp (by kernel_rfl)) RVs_nil)) ?_
      exact ⟨rfl, M3539.pick [] (by kernel_rfl)⟩
    · refine G_cond_f (b := o3525) hc3542 (by kernel_rfl) ?_
      refine G_skip ?_
      refine N_then ?_
      refine G_seq ?_
      refine G_seq ?_
      refine G_region ?_
      refine W_run 1 [(0, .slice p3511 x3509.length c3512), (1, .int .i64 x3514), (6, .int .i64 0)] w3538 (by kernel_rfl) ?_
      refine W_nil ?_
      refine N_then ?_
      obtain ⟨out6705, hw6706, hmo6707⟩ := gx_bind hm
      refine G_meet (fun a w' => ∃ (o6708 : Unit), out6705 = .inl o6708 ∧ Mem [] w w' [] ∧ Sat Try.f33.ntmps [] a) ?_ ?_
      · refine G_block ?_
        refine G_while (σ := Int) (ρ := (Unit) ⊕ (Int × Bool)) (fun s6698 a w' => Mem [] w w' [] ∧ Sat Try.f33.ntmps [(0, .slice p3511 x3509.length c3512), (1, .int .i64 x3514), (6, .int .i64 s6698)] a) hw6706 (fun a ha => ⟨M3539.pick [] (by kernel_rfl), ha.sub (by kernel_rfl)⟩) ?_
        clear hm
        intro s6698 x6699 hm hout6700 a6701 w6702 ⟨M6703, hS6704⟩
        refine G_use hS6704 ?_
        refine G_seq ?_
        refine G_seq ?_
        refine G_region ?_
        refine W_run 4 [(0, .slice p3511 x3509.length c3512), (1, .int .i64 x3514), (6, .int .i64 s6698), (25, .bool (decide ((w64 (s6698 + x3514)) ≤ 65536)))] w6702 (by kernel_rfl) ?_
        refine W_nil ?_
        refine N_then ?_
        rcases gx_bif hm with ⟨hc6709, hm⟩ | ⟨hc6709, hm⟩
        · refine G_cond_t (b := (decide ((w64 (s6698 + x3514)) ≤ 65536))) hc6709 (by kernel_rfl) ?_
          refine G_skip ?_
          refine N_then ?_
          refine G_seq ?_
          refine G_block ?_
          refine G_seq ?_
          refine G_region ?_
          refine W_run 1 [(0, .slice p3511 x3509.length c3512), (1, .int .i64 x3514), (6, .int .i64 s6698), (30, .slice p3511 x3509.length c3512)] w6702 (by kernel_rfl) ?_
          obtain ⟨r6710, hr6710, hm⟩ := gx_bind hm
          refine W_call 75 #[.slice p3511 x3509.length c3512] (by kernel_rfl) (by kernel_rfl) ?_
          refine (c_slices_Clone_75 w6702 x3509 p3511 c3512 (h3513.mem0 M6703) hr6710).mono ?_
          rintro e_ w6716 ⟨p6712, c6713, sg6714, rfl, ho6715, K6717⟩
          have M6718 := M6703.call K6717
          refine ⟨_, rfl, ?_⟩
          refine W_run 3 [(0, .slice p3511 x3509.length c3512), (1, .int .i64 x3514), (6, .int .i64 s6698), (31, .slice p6712 r6710.length c6713), (34, .agg #[.int .i64 s6698, .int .i64 x3514, .int .i64 0, .int .i64 0])] w6716 (by kernel_rfl) ?_
          refine W_lit (E := encRegion) [(⟨s6698, x3514, 0, 0⟩ : Region)] 1 [.int .i64 s6698, .int .i64 x3514, .int .i64 0, .int .i64 0] 59 M6718 (by kernel_rfl) (by kernel_rfl) (by kernel_rfl) (by kernel_rfl) (by kernel_rfl) ?_
          intro p6719 c6720 sg6721 w6722 ho6723 M6724
          obtain ⟨ap6726, hap6726, hm⟩ := gx_bind hm
          refine W_append (E := encRegion) _ _ _ 32 [.int .i64 0, .int .i64 0, .int .i64 0, .int .i64 0] 0 c6720 M6724 ho6715 (by kernel_rfl) (by kernel_rfl) (by kernel_rfl) rfl (by kernel_rfl) (by kernel_rfl) (by kernel_rfl) (by kernel_rfl) (by kernel_rfl) (by kernel_rfl) (ho6723.rd M6724 1 (by kernel_rfl)) hap6726 ?_
          intro p6727 c6728 sg6729 w6730 ho6731 M6732
          obtain ⟨r6734, hr6734, hm⟩ := gx_bind hm
          refine W_call 74 #[.slice p6727 ap6726.length c6728] (by kernel_rfl) (by kernel_rfl) ?_
          refine (c_i_asMap w6730 ap6726 p6727 c6728 (ho6731.rd M6732 0 (by kernel_rfl)) hr6734).mono ?_
          rintro e_ w6740 ⟨p6736, c6737, sg6738, rfl, ho6739, K6741⟩
          have M6742 := M6732.call K6741
          refine ⟨_, rfl, ?_⟩
          refine W_run 5 [(0, .slice p3511 x3509.length c3512), (1, .int .i64 x3514), (6, .int .i64 s6698), (8, .bool r6734.2)] w6740 (by kernel_rfl) ?_
          refine W_nil ?_
          refine N_then ?_
          refine G_seq ?_
          refine G_region ?_
          refine W_run 1 [(0, .slice p3511 x3509.length c3512), (1, .int .i64 x3514), (6, .int .i64 s6698), (40, .bool r6734.2)] w6740 (by kernel_rfl) ?_
          refine W_nil ?_
          refine N_then ?_
          rcases gx_bif hm with ⟨hc6743, hm⟩ | ⟨hc6743, hm⟩
          · refine G_cond_t (b := r6734.2) hc6743 (by kernel_rfl) ?_
            refine G_seq ?_
            refine G_region ?_
            refine W_run 3 [(4, .int .i64 s6698), (5, .bool true)] w6740 (by kernel_rfl) ?_
            refine W_nil ?_
            refine N_then ?_
            refine G_ret ?_
            refine N_block_ret ?_
            refine N_then_ret ?_
            refine N_then_ret ?_
            obtain rfl := Option.some.inj hm
            obtain rfl := hout6700 _ rfl
            have hm := hmo6707; simp only [Sum.elim_inr] at hm
            refine N_block_ret ?_
            refine N_meet_ret ?_
            refine N_then_ret ?_
            obtain rfl := Option.some.inj hm
            refine N_ret [.int .i64 s6698, .bool true] (RVs_cons (RV_tmp (by kernel_rfl)) (RVs_cons (RV_tmp (by kernel_rfl)) RVs_nil)) ?_
            exact ⟨rfl, M6742.pick [] (by kernel_rfl)⟩
          · refine G_cond_f (b := r6734.2) hc6743 (by kernel_rfl) ?_
            refine G_skip ?_
            refine N_block ?_
            refine N_then ?_
            refine G_region ?_
            refine W_run 4 [(0, .slice p3511 x3509.length c3512), (1, .int .i64 x3514), (6, .int .i64 (w64 (s6698 + x3514)))] w6740 (by kernel_rfl) ?_
            refine W_nil ?_
            obtain rfl := Option.some.inj hm
            exact N_loop fun a ha => ⟨_, rfl, M6742.pick [] (by kernel_rfl), ha.sub (by kernel_rfl)⟩
        · refine G_cond_f (b := (decide ((w64 (s6698 + x3514)) ≤ 65536))) hc6709 (by kernel_rfl) ?_
          refine G_exit ?_
          refine N_then_exit ?_
          refine N_then_exit ?_
          refine N_block_eq ?_
          obtain rfl := Option.some.inj hm
          obtain rfl := hout6700 _ rfl
          exact N_meet fun a ha => ⟨_, rfl, M6703.pick [] (by kernel_rfl), ha.sub (by kernel_rfl)⟩
      · intro a6744 w6745 ⟨o6708, hout_, M6746, hS6747⟩
        refine N_use hS6747 ?_
        subst hout_
        have hm := hmo6707; simp only [Sum.elim_inl] at hm
        refine N_then ?_
        refine G_seq ?_
        refine G_region ?_
        refine W_run 2 [(4, .int .i64 0), (5, .bool false)] w6745 (by kernel_rfl) ?_
        refine W_nil ?_
        refine N_then ?_
        refine G_ret ?_
        obtain rfl := Option.some.inj hm
        refine N_ret [.int .i64 0, .bool false] (RVs_cons (RV_tmp (by kernel_rfl)) (RVs_cons (RV_tmp (by kernel_rfl)) RVs_nil)) ?_
        exact ⟨rfl, M6746.pick [] (by kernel_rfl)⟩
theorem c_l_FnExactPlaceRegion (w : World) (x3211 : List Region) (p3213 : Option Addr) (c3214 : Nat) (h3215 : rdS encRegion w x3211 p3213 c3214) (x3216 : Int) {r : Bool} (hm : M.l_FnExactPlaceRegion x3211 x3216 = some r) :
    Calls Try.prog 7 #[.slice p3213 x3211.length c3214, .int .i64 x3216] w fun e w' => e = .returned (.bool r) ∧ Mem [] w w' [] := by
  unfold M.l_FnExactPlaceRegion at hm
  refine C_enter Try.func7 rfl (by kernel_rfl) ?_
  have M0 := Mem.refl [] w
  refine G_seq ?_
  refine G_region ?_
  refine W_run 1 [(0, .slice p3213 x3211.length c3214), (1, .int .i64 x3216)] w (by kernel_rfl) ?_
  refine W_nil ?_
  refine N_then ?_
  refine G_seq ?_
  refine G_region ?_
  refine W_run 1 [(0, .slice p3213 x3211.length c3214), (1, .int .i64 x3216), (5, .int .i64 1048576)] w (by kernel_rfl) ?_
  refine W_nil ?_
  refine N_then ?_
  refine G_seq ?_
  refine G_region ?_
  refine W_run 2 [(0, .slice p3213 x3211.length c3214), (1, .int .i64 x3216), (5, .int .i64 1048576), (11, .slice p3213 x3211.length c3214), (12, .int .i64 1048576)] w (by kernel_rfl) ?_
  obtain ⟨r3217, hr3217, hm⟩ := gx_bind hm
  refine W_call 15 #[.slice p3213 x3211.length c3214, .int .i64 1048576] (by kernel_rfl) (by kernel_rfl) ?_
  refine (c_l_szRegionS w x3211 p3213 c3214 (h3215.mem0 M0) 1048576 hr3217).mono ?_
  rintro e_ w3218 ⟨rfl, K3219⟩
  have M3220 := M0.call0 K3219
  refine ⟨_, rfl, ?_⟩
  refine W_run 1 [(0, .slice p3213 x3211.length c3214), (1, .int .i64 x3216), (5, .int .i64 r3217)] w3218 (by kernel_rfl) ?_
  refine W_nil ?_
  refine N_then ?_
  refine G_seq ?_
  refine G_seq ?_
  refine G_region ?_
  refine W_run 2 [(0, .slice p3213 x3211.length c3214), (1, .int .i64 x3216), (15, .bool (decide (r3217 < 0)))] w3218 (by kernel_rfl) ?_
  refine W_nil ?_
  refine N_then ?_
  rcases gx_bif hm with ⟨hc3221, hm⟩ | ⟨hc3221, hm⟩
  · refine G_cond_t (b := (decide (r3217 < 0))) hc3221 (by kernel_rfl) ?_
    refine G_seq ?_
    refine G_region ?_
    refine W_run 1 [(4, .bool true)] w3218 (by kernel_rfl) ?_
    refine W_nil ?_
    refine N_then ?_
    refine G_ret ?_
    refine N_then_ret ?_
    obtain rfl := Option.some.inj hm
    refine N_ret [.bool true] (RVs_cons (RV_tmp (by kernel_rfl)) RVs_nil) ?_
    exact ⟨rfl, M3220.pick [] (by kernel_rfl)⟩
  · refine G_cond_f (b := (decide (r3217 < 0))) hc3221 (by kernel_rfl) ?_
    refine G_skip ?_
    refine N_then ?_
    refine G_seq ?_
    refine G_region ?_
    refine W_run 1 [(0, .slice p3213 x3211.length c3214), (1, .int .i64 x3216), (17, .slice p3213 x3211.length c3214)] w3218 (by kernel_rfl) ?_
    obtain ⟨r3222, hr3222, hm⟩ := gx_bind hm
    refine W_call 17 #[.slice p3213 x3211.length c3214] (by kernel_rfl) (by kernel_rfl) ?_
    refine (c_l_toRegionS w3218 x3211 p3213 c3214 (h3215.mem0 M3220) hr3222).mono ?_
    rintro e_ w3228 ⟨p3224, c3225, sg3226, rfl, ho3227, K3229⟩
    have M3230 := M3220.call K3229
    refine ⟨_, rfl, ?_⟩
    refine W_run 1 [(0, .slice p3213 x3211.length c3214), (1, .int .i64 x3216), (18, .slice p3224 r3222.length c3225), (19, .int .i64 x3216)] w3228 (by kernel_rfl) ?_
    obtain ⟨r3496, hr3496, hm⟩ := gx_bind hm
    refine W_call 32 #[.slice p3224 r3222.length c3225, .int .i64 x3216] (by kernel_rfl) (by kernel_rfl) ?_
    refine (c_s_PlaceRegion w3228 r3222 p3224 c3225 (ho3227.rd M3230 0 (by kernel_rfl)) x3216 hr3496).mono ?_
    rintro e_ w3497 ⟨rfl, K3498⟩
    have M3499 := M3230.call0 K3498
    refine ⟨_, rfl, ?_⟩
    refine W_run 5 [(0, .slice p3213 x3211.length c3214), (1, .int .i64 x3216), (6, .int .i64 r3496.1), (7, .bool r3496.2)] w3497 (by kernel_rfl) ?_
    refine W_nil ?_
    refine N_then ?_
    refine G_seq ?_
    refine G_region ?_
    refine W_run 1 [(0, .slice p3213 x3211.length c3214), (1, .int .i64 x3216), (6, .int .i64 r3496.1), (7, .bool r3496.2), (23, .slice p3213 x3211.length c3214)] w3497 (by kernel_rfl) ?_
    obtain ⟨r3500, hr3500, hm⟩ := gx_bind hm
    refine W_call 17 #[.slice p3213 x3211.length c3214] (by kernel_rfl) (by kernel_rfl) ?_
    refine (c_l_toRegionS w3497 x3211 p3213 c3214 (h3215.mem0 M3499) hr3500).mono ?_
    rintro e_ w3506 ⟨p3502, c3503, sg3504, rfl, ho3505, K3507⟩
    have M3508 := M3499.call K3507
    refine ⟨_, rfl, ?_⟩
    refine W_run 1 [(0, .slice p3213 x3211.length c3214), (1, .int .i64 x3216), (6, .int .i64 r3496.1), (7, .bool r3496.2), (8, .slice p3502 r3500.length c3503)] w3506 (by kernel_rfl) ?_
    refine W_nil ?_
    refine N_then ?_
    refine G_seq ?_
    refine G_region ?_
    refine W_run 2 [(0, .slice p3213 x3211.length c3214), (6, .int .i64 r3496.1), (7, .bool r3496.2), (8, .slice p3502 r3500.length c3503), (26, .slice p3502 r3500.length c3503), (27, .int .i64 x3216)] w3506 (by kernel_rfl) ?_
    obtain ⟨r6748, hr6748, hm⟩ := gx_bind hm
    refine W_call 33 #[.slice p3502 r3500.length c3503, .int .i64 x3216] (by kernel_rfl) (by kernel_rfl) ?_
    refine (c_i_PlaceRegion w3506 r3500 p3502 c3503 (ho3505.rd M3508 1 (by kernel_rfl)) x3216 hr6748).mono ?_
    rintro e_ w6749 ⟨rfl, K6750⟩
    have M6751 := M3508.call0 K6750
    refine ⟨_, rfl, ?_⟩
    refine W_run 5 [(0, .slice p3213 x3211.length c3214), (6, .int .i64 r3496.1), (7, .bool r3496.2), (8, .slice p3502 r3500.length c3503), (9, .int .i64 r6748.1), (10, .bool r6748.2)] w6749 (by kernel_rfl) ?_
    refine W_nil ?_
    refine N_then ?_
    refine G_seq ?_
    refine G_seq ?_
    obtain ⟨o6753, ho6754, hm6755⟩ := gx_bind hm
    refine G_meet (fun a w' => Mem [] w w' [sg3504] ∧ Sat Try.f7.ntmps [(0, .slice p3213 x3211.length c3214), (8, .slice p3502 r3500.length c3503), (38, .bool o6753)] a) ?_ ?_
    · have hm := ho6754
      refine G_region ?_
      refine W_run 4 [(0, .slice p3213 x3211.length c3214), (7, .bool r3496.2), (8, .slice p3502 r3500.length c3503), (10, .bool r6748.2), (34, .bool (r6748.1 != r3496.1))] w6749 (by kernel_rfl) ?_
      rcases gx_bif hm with ⟨hc6756, hm⟩ | ⟨hc6756, hm⟩
      · refine W_known 34 true (by kernel_rfl) hc6756 ?_
        refine W_run 4 [(0, .slice p3213 x3211.length c3214), (8, .slice p3502 r3500.length c3503), (38, .bool true)] w6749 (by kernel_rfl) ?_
        refine W_nil ?_
        obtain rfl := Option.some.inj hm
        exact N_meet fun a ha => ⟨M6751.pick [1] (by kernel_rfl), ha.sub (by kernel_rfl)⟩
      · refine W_known 34 false (by kernel_rfl) hc6756 ?_
        refine W_run 4 [(0, .slice p3213 x3211.length c3214), (8, .slice p3502 r3500.length c3503), (38, .bool (!(r6748.2 == r3496.2)))] w6749 (by kernel_rfl) ?_
        refine W_nil ?_
        obtain rfl := Option.some.inj hm
        exact N_meet fun a ha => ⟨M6751.pick [1] (by kernel_rfl), ha.sub (by kernel_rfl)⟩
    · intro a6759 w6757 ⟨M6758, hS6760⟩
      refine N_use hS6760 ?_
      have hm := hm6755
      refine N_then ?_
      rcases gx_bif hm with ⟨hc6761, hm⟩ | ⟨hc6761, hm⟩
      · refine G_cond_t (b := o6753) hc6761 (by kernel_rfl) ?_
        refine G_seq ?_
        refine G_region ?_
        refine W_run 1 [(4, .bool false)] w6757 (by kernel_rfl) ?_
        refine W_nil ?_
        refine N_then ?_
        refine G_ret ?_
        refine N_then_ret ?_
        obtain rfl := Option.some.inj hm
        refine N_ret [.bool false] (RVs_cons (RV_tmp (by kernel_rfl)) RVs_nil) ?_
        exact ⟨rfl, M6758.pick [] (by kernel_rfl)⟩
      · refine G_cond_f (b := o6753) hc6761 (by kernel_rfl) ?_
        refine G_skip ?_
        refine N_then ?_
        refine G_seq ?_
        refine G_seq ?_
        refine G_region ?_
        refine W_run 2 [(39, .slice p3502 r3500.length c3503), (40, .slice p3213 x3211.length c3214)] w6757 (by kernel_rfl) ?_
        obtain ⟨r6762, hr6762, hm⟩ := gx_bind hm
        refine W_call 17 #[.slice p3213 x3211.length c3214] (by kernel_rfl) (by kernel_rfl) ?_
        refine (c_l_toRegionS w6757 x3211 p3213 c3214 (h3215.mem0 M6758) hr6762).mono ?_
        rintro e_ w6768 ⟨p6764, c6765, sg6766, rfl, ho6767, K6769⟩
        have M6770 := M6758.call K6769
        refine ⟨_, rfl, ?_⟩
        obtain ⟨r6771, hr6771, hm⟩ := gx_bind hm
        refine W_call 20 #[.slice p3502 r3500.length c3503, .slice p6764 r6762.length c6765] (by kernel_rfl) (by kernel_rfl) ?_
        refine (c_l_eqRegionS w6768 r3500 p3502 c3503 (ho3505.rd M6770 0 (by kernel_rfl)) r6762 p6764 c6765 (ho6767.rd M6770 1 (by kernel_rfl)) hr6771).mono ?_
        rintro e_ w6772 ⟨rfl, K6773⟩
        have M6774 := M6770.call0 K6773
        refine ⟨_, rfl, ?_⟩
        refine W_run 1 [(43, .bool (!r6771))] w6772 (by kernel_rfl) ?_
        refine W_nil ?_
        refine N_then ?_
        rcases gx_bif hm with ⟨hc6775, hm⟩ | ⟨hc6775, hm⟩
        · refine G_cond_t (b := (!r6771)) hc6775 (by kernel_rfl) ?_
          refine G_seq ?_
          refine G_region ?_
          refine W_run 1 [(4, .bool false)] w6772 (by kernel_rfl) ?_
          refine W_nil ?_
          refine N_then ?_
          refine G_ret ?_
          refine N_then_ret ?_
          obtain rfl := Option.some.inj hm
          refine N_ret [.bool false] (RVs_cons (RV_tmp (by kernel_rfl)) RVs_nil) ?_
          exact ⟨rfl, M6774.pick [] (by kernel_rfl)⟩
        · refine G_cond_f (b := (!r6771)) hc6775 (by kernel_rfl) ?_
          refine G_skip ?_
          refine N_then ?_
          refine G_seq ?_
          refine G_region ?_
          refine W_run 1 [(4, .bool true)] w6772 (by kernel_rfl) ?_
          refine W_nil ?_
          refine N_then ?_
          refine G_ret ?_
          obtain rfl := Option.some.inj hm
          refine N_ret [.bool true] (RVs_cons (RV_tmp (by kernel_rfl)) RVs_nil) ?_
          exact ⟨rfl, M6774.pick [] (by kernel_rfl)⟩
theorem c_s_AddRegion (w : World) (x6800 : List Region) (p6802 : Option Addr) (c6803 : Nat) (h6804 : rdS encRegion w x6800 p6802 c6803) (x6805 : Region) {r : (List Region) × Bool} (hm : M.s_AddRegion x6800 x6805 = some r) :
    Calls Try.prog 34 #[.slice p6802 x6800.length c6803, .agg #[.int .i64 x6805.Base, .int .i64 x6805.Size, .int .i64 x6805.Kind, .int .i64 x6805.Unit]] w fun e w' => ∃ (p6807 : Option Addr) (c6808 : Nat) (sg6809 : Seg), e = .returned (.tuple #[.slice p6807 r.1.length c6808, .bool r.2]) ∧ ownS encRegion r.1 p6807 c6808 sg6809 ∧ Mem [] w w' [sg6809] := by
  unfold M.s_AddRegion at hm
  refine C_enter Try.func34 rfl (by kernel_rfl) ?_
  have M0 := Mem.refl [] w
  refine G_seq ?_
  refine G_region ?_
  refine W_new (fun b => .pointer (some ⟨b, 0, none⟩)) (.cells ⟨[.int .i64 x6805.Base, .int .i64 x6805.Size, .int .i64 x6805.Kind, .int .i64 x6805.Unit]⟩ 59 (0, 0)) M0 rfl (by kernel_rfl) (by kernel_rfl) ?_
  intro b6811 w6812 M6813
  refine W_run 2 [(0, .slice p6802 x6800.length c6803), (3, .pointer (some ⟨b6811, 0, none⟩))] w6812 (by kernel_rfl) ?_
  refine W_nil ?_
  refine N_then ?_
  refine G_seq ?_
  refine G_seq ?_
  obtain ⟨o6833, ho6834, hm6835⟩ := gx_bind hm
  refine G_meet (fun a w' => Mem [] w w' [[(b6811, .cells ⟨[.int .i64 x6805.Base, .int .i64 x6805.Size, .int .i64 x6805.Kind, .int .i64 x6805.Unit]⟩ 59 (0, 0))]] ∧ Sat Try.f34.ntmps [(0, .slice p6802 x6800.length c6803), (3, .pointer (some ⟨b6811, 0, none⟩)), (15, .bool o6833)] a) ?_ ?_
  · have hm := ho6834
    refine G_region ?_
    refine W_run 1 [(0, .slice p6802 x6800.length c6803), (3, .pointer (some ⟨b6811, 0, none⟩)), (6, .slice p6802 x6800.length c6803)] w6812 (by kernel_rfl) ?_
    obtain ⟨r6836, hr6836, hm⟩ := gx_bind hm
    refine W_call 60 #[.slice p6802 x6800.length c6803] (by kernel_rfl) (by kernel_rfl) ?_
    refine (c_s_l17Good w6812 x6800 p6802 c6803 (h6804.mem0 M6813) hr6836).mono ?_
    rintro e_ w6837 ⟨rfl, K6838⟩
    have M6839 := M6813.call0 K6838
    refine ⟨_, rfl, ?_⟩
    refine W_run 2 [(0, .slice p6802 x6800.length c6803), (3, .pointer (some ⟨b6811, 0, none⟩)), (9, .bool (!r6836))] w6837 (by kernel_rfl) ?_
    rcases gx_bif hm with ⟨hc6840, hm⟩ | ⟨hc6840, hm⟩
    · refine W_known 9 true (by kernel_rfl) hc6840 ?_
      refine W_run 6 [(0, .slice p6802 x6800.length c6803), (3, .pointer (some ⟨b6811, 0, none⟩)), (15, .bool true)] w6837 (by kernel_rfl) ?_
      refine W_nil ?_
      obtain rfl := Option.some.inj hm
      exact N_meet fun a ha => ⟨M6839.pick [0] (by kernel_rfl), ha.sub (by kernel_rfl)⟩
    · refine W_known 9 false (by kernel_rfl) hc6840 ?_
      refine W_run 1 [(0, .slice p6802 x6800.length c6803), (3, .pointer (some ⟨b6811, 0, none⟩)), (9, .bool false), (10, .slice p6802 x6800.length c6803)] w6837 (by kernel_rfl) ?_
      refine W_val (.agg #[.int .i64 x6805.Base, .int .i64 x6805.Size, .int .i64 x6805.Kind, .int .i64 x6805.Unit]) w6837 (by kernel_rfl) (E_load (e := 59) (fr := (0, 0)) _ _ true 4 b6811 0 [.int .i64 x6805.Base, .int .i64 x6805.Size, .int .i64 x6805.Kind, .int .i64 x6805.Unit] (.agg #[.int .i64 x6805.Base, .int .i64 x6805.Size, .int .i64 x6805.Kind, .int .i64 x6805.Unit]) rfl (by kernel_rfl) (by kernel_rfl) (by kernel_rfl) (M6839.blk 0 (b := b6811) (o := .cells ⟨[.int .i64 x6805.Base, .int .i64 x6805.Size, .int .i64 x6805.Kind, .int .i64 x6805.Unit]⟩ 59 (0, 0)) (by kernel_rfl))) ?_
      obtain ⟨r6841, hr6841, hm⟩ := gx_bind hm
      refine W_call 72 #[.slice p6802 x6800.length c6803, .agg #[.int .i64 x6805.Base, .int .i64 x6805.Size, .int .i64 x6805.Kind, .int .i64 x6805.Unit]] (by kernel_rfl) (by kernel_rfl) ?_
      refine (c_s_l17Add w6837 x6800 p6802 c6803 (h6804.mem0 M6839) x6805 hr6841).mono ?_
      rintro e_ w6847 ⟨p6843, c6844, sg6845, rfl, ho6846, K6848⟩
      have M6849 := M6839.call K6848
      refine ⟨_, rfl, ?_⟩
      obtain ⟨r6850, hr6850, hm⟩ := gx_bind hm
      refine W_call 60 #[.slice p6843 r6841.length c6844] (by kernel_rfl) (by kernel_rfl) ?_
      refine (c_s_l17Good w6847 r6841 p6843 c6844 (ho6846.rd M6849 1 (by kernel_rfl)) hr6850).mono ?_
      rintro e_ w6851 ⟨rfl, K6852⟩
      have M6853 := M6849.call0 K6852
      refine ⟨_, rfl, ?_⟩
      refine W_run 2 [(0, .slice p6802 x6800.length c6803), (3, .pointer (some ⟨b6811, 0, none⟩)), (15, .bool (!r6850))] w6851 (by kernel_rfl) ?_
      refine W_nil ?_
      obtain rfl := Option.some.inj hm
      exact N_meet fun a ha => ⟨M6853.pick [0] (by kernel_rfl), ha.sub (by kernel_rfl)⟩
  · intro a6856 w6854 ⟨M6855, hS6857⟩
    refine N_use hS6857 ?_
    have hm := hm6835
    refine N_then ?_
    rcases gx_bif hm with ⟨hc6858, hm⟩ | ⟨hc6858, hm⟩
    · refine G_cond_t (b := o6833) hc6858 (by kernel_rfl) ?_
      refine G_seq ?_
      refine G_region ?_
      refine W_lit (E := encRegion) ([] : List Region) 0 [] 59 M6855 (by kernel_rfl) (by kernel_rfl) (by kernel_rfl) (by kernel_rfl) (by kernel_rfl) ?_
      intro p6859 c6860 sg6861 w6862 ho6863 M6864
      refine W_run 2 [(4, .slice p6859 ([] : List Region).length c6860), (5, .bool false)] w6862 (by kernel_rfl) ?_
      refine W_nil ?_
      refine N_then ?_
      refine G_ret ?_
      refine N_then_ret ?_
      obtain rfl := Option.some.inj hm
      refine N_ret [.slice p6859 ([] : List Region).length c6860, .bool false] (RVs_cons (RV_tmp (by kernel_rfl)) (RVs_cons (RV_tmp (by kernel_rfl)) RVs_nil)) ?_
      exact ⟨p6859, c6860, sg6861, rfl, ho6863, M6864.pick [1] (by kernel_rfl)⟩
    · refine G_cond_f (b := o6833) hc6858 (by kernel_rfl) ?_
      refine G_skip ?_
      refine N_then ?_
      refine G_seq ?_
      refine G_region ?_
      refine W_run 1 [(3, .pointer (some ⟨b6811, 0, none⟩)), (17, .slice p6802 x6800.length c6803)] w6854 (by kernel_rfl) ?_
      refine W_val (.agg #[.int .i64 x6805.Base, .int .i64 x6805.Size, .int .i64 x6805.Kind, .int .i64 x6805.Unit]) w6854 (by kernel_rfl) (E_load (e := 59) (fr := (0, 0)) _ _ true 4 b6811 0 [.int .i64 x6805.Base, .int .i64 x6805.Size, .int .i64 x6805.Kind, .int .i64 x6805.Unit] (.agg #[.int .i64 x6805.Base, .int .i64 x6805.Size, .int .i64 x6805.Kind, .int .i64 x6805.Unit]) rfl (by kernel_rfl) (by kernel_rfl) (by kernel_rfl) (M6855.blk 0 (b := b6811) (o := .cells ⟨[.int .i64 x6805.Base, .int .i64 x6805.Size, .int .i64 x6805.Kind, .int .i64 x6805.Unit]⟩ 59 (0, 0)) (by kernel_rfl))) ?_
      obtain ⟨r6866, hr6866, hm⟩ := gx_bind hm
      refine W_call 72 #[.slice p6802 x6800.length c6803, .agg #[.int .i64 x6805.Base, .int .i64 x6805.Size, .int .i64 x6805.Kind, .int .i64 x6805.Unit]] (by kernel_rfl) (by kernel_rfl) ?_
      refine (c_s_l17Add w6854 x6800 p6802 c6803 (h6804.mem0 M6855) x6805 hr6866).mono ?_
      rintro e_ w6872 ⟨p6868, c6869, sg6870, rfl, ho6871, K6873⟩
      have M6874 := M6855.call K6873
      refine ⟨_, rfl, ?_⟩
      refine W_run 2 [(4, .slice p6868 r6866.length c6869), (5, .bool true)] w6872 (by kernel_rfl) ?_
      refine W_nil ?_
      refine N_then ?_
      refine G_ret ?_
      obtain rfl := Option.some.inj hm
      refine N_ret [.slice p6868 r6866.length c6869, .bool true] (RVs_cons (RV_tmp (by kernel_rfl)) (RVs_cons (RV_tmp (by kernel_rfl)) RVs_nil)) ?_
      exact ⟨p6868, c6869, sg6870, rfl, ho6871, M6874.pick [1] (by kernel_rfl)⟩
theorem c_i_AddRegion (w : World) (x6936 : List Region) (p6938 : Option Addr) (c6939 : Nat) (h6940 : rdS encRegion w x6936 p6938 c6939) (x6941 : Region) {r : (List Region) × Bool} (hm : M.i_AddRegion x6936 x6941 = some r) :
    Calls Try.prog 36 #[.slice p6938 x6936.length c6939, .agg #[.int .i64 x6941.Base, .int .i64 x6941.Size, .int .i64 x6941.Kind, .int .i64 x6941.Unit]] w fun e w' => ∃ (p6943 : Option Addr) (c6944 : Nat) (sg6945 : Seg), e = .returned (.tuple #[.slice p6943 r.1.length c6944, .bool r.2]) ∧ ownS encRegion r.1 p6943 c6944 sg6945 ∧ Mem [] w w' [sg6945] := by
  unfold M.i_AddRegion at hm
  refine C_enter Try.func36 rfl (by kernel_rfl) ?_
  have M0 := Mem.refl [] w
  refine G_seq ?_
  refine G_region ?_
  refine W_new (fun b => .pointer (some ⟨b, 0, none⟩)) (.cells ⟨[.int .i64 x6941.Base, .int .i64 x6941.Size, .int .i64 x6941.Kind, .int .i64 x6941.Unit]⟩ 59 (0, 0)) M0 rfl (by kernel_rfl) (by kernel_rfl) ?_
  intro b6947 w6948 M6949
  refine W_run 2 [(0, .slice p6938 x6936.length c6939), (3, .pointer (some ⟨b6947, 0, none⟩))] w6948 (by kernel_rfl) ?_
  refine W_nil ?_
  refine N_then ?_
  refine G_seq ?_
  refine G_seq ?_
  refine G_region ?_
  refine W_run 1 [(0, .slice p6938 x6936.length c6939), (3, .pointer (some ⟨b6947, 0, none⟩)), (6, .slice p6938 x6936.length c6939)] w6948 (by kernel_rfl) ?_
  obtain ⟨r6951, hr6951, hm⟩ := gx_bind hm
  refine W_call 49 #[.slice p6938 x6936.length c6939] (by kernel_rfl) (by kernel_rfl) ?_
  refine (c_i_IsMap w6948 x6936 p6938 c6939 (h6940.mem0 M6949) hr6951).mono ?_
  rintro e_ w6952 ⟨rfl, K6953⟩
  have M6954 := M6949.call0 K6953
  refine ⟨_, rfl, ?_⟩
  refine W_run 1 [(0, .slice p6938 x6936.length c6939), (3, .pointer (some ⟨b6947, 0, none⟩)), (8, .bool (!r6951))] w6952 (by kernel_rfl) ?_
  refine W_nil ?_
  refine N_then ?_
  rcases gx_bif hm with ⟨hc6955, hm⟩ | ⟨hc6955, hm⟩
  · refine G_cond_t (b := (!r6951)) hc6955 (by kernel_rfl) ?_
    refine G_seq ?_
    refine G_region ?_
    refine W_run 2 [(4, .slice none 0 0), (5, .bool false)] w6952 (by kernel_rfl) ?_
    refine W_nil ?_
    refine N_then ?_
    refine G_ret ?_
    refine N_then_ret ?_
    obtain rfl := Option.some.inj hm
    refine N_ret [.slice none 0 0, .bool false] (RVs_cons (RV_tmp (by kernel_rfl)) (RVs_cons (RV_tmp (by kernel_rfl)) RVs_nil)) ?_
    exact ⟨none, 0, [], rfl, ownS_nil, M6954.pick [100000] (by kernel_rfl)⟩
  · refine G_cond_f (b := (!r6951)) hc6955 (by kernel_rfl) ?_
    refine G_skip ?_
    refine N_then ?_
    refine G_seq ?_
    obtain ⟨r6959, hr6959, hm⟩ := gx_bind hm
    obtain ⟨ap6970, hap6970, hm⟩ := gx_bind hm
    obtain ⟨r6976, hr6976, hm⟩ := gx_bind hm
    refine G_sub [(0, .slice p6938 x6936.length c6939), (3, .pointer (some ⟨b6947, 0, none⟩)), (8, .bool (!r6951))] (by kernel_rfl) ?_
    refine G_dagL 8 [[], [0], [], [2], [1, 3], [4], [], []] [[], [], [], [], [1], [], [], []] [[], [], [], [], [3], [4], [], []] [[], [], [], [], [], [], [5], [5]] [[], [], [], [], [], [], [5], []] [[], [], [], [], [], [], [], []] (fun _ => []) (fun i => ([fun f v s => v = (.slice p6938 x6936.length c6939 : Value) ∧ s = [], fun f v s => ∃ (p6961 : Option Addr) (c6962 : Nat), v = (.slice p6961 r6959.length c6962 : Value) ∧ ownS encRegion r6959 p6961 c6962 s, fun f v s => v = (.agg #[.int .i64 x6941.Base, .int .i64 x6941.Size, .int .i64 x6941.Kind, .int .i64 x6941.Unit] : Value) ∧ s = [], fun f v s => ∃ (p6966 : Option Addr) (c6967 : Nat), v = (.slice p6966 [x6941].length c6967 : Value) ∧ ownS encRegion [x6941] p6966 c6967 s, fun f v s => ∃ (p6972 : Option Addr) (c6973 : Nat), v = (.slice p6972 ap6970.length c6973 : Value) ∧ ownS encRegion ap6970 p6972 c6973 s, fun f v s => ∃ (p6978 : Option Addr) (c6979 : Nat), v = (.tuple #[.slice p6978 r6976.1.length c6979, .bool r6976.2] : Value) ∧ ownS encRegion r6976.1 p6978 c6979 s, fun f v s => v = ((atPath (f 5) [0]) : Value) ∧ s = [], fun f v s => v = (.bool r6976.2 : Value) ∧ s = []] : List ((Nat → Value) → Value → Seg → Prop)).getD i (fun _ _ _ => False)) (fun j f v => ∃ s, (fun i => ([fun f v s => v = (.slice p6938 x6936.length c6939 : Value) ∧ s = [], fun f v s => ∃ (p6961 : Option Addr) (c6962 : Nat), v = (.slice p6961 r6959.length c6962 : Value) ∧ ownS encRegion r6959 p6961 c6962 s, fun f v s => v = (.agg #[.int .i64 x6941.Base, .int .i64 x6941.Size, .int .i64 x6941.Kind, .int .i64 x6941.Unit] : Value) ∧ s = [], fun f v s => ∃ (p6966 : Option Addr) (c6967 : Nat), v = (.slice p6966 [x6941].length c6967 : Value) ∧ ownS encRegion [x6941] p6966 c6967 s, fun f v s => ∃ (p6972 : Option Addr) (c6973 : Nat), v = (.slice p6972 ap6970.length c6973 : Value) ∧ ownS encRegion ap6970 p6972 c6973 s, fun f v s => ∃ (p6978 : Option Addr) (c6979 : Nat), v = (.tuple #[.slice p6978 r6976.1.length c6979, .bool r6976.2] : Value) ∧ ownS encRegion r6976.1 p6978 c6979 s, fun f v s => v = ((atPath (f 5) [0]) : Value) ∧ s = [], fun f v s => v = (.bool r6976.2 : Value) ∧ s = []] : List ((Nat → Value) → Value → Seg → Prop)).getD i (fun _ _ _ => False)) j f v s) [] [3, 4, 5, 6, 7] [3, 4, 5] (fun _ _ _ s h => ⟨s, h⟩) (by kernel_rfl) (by kernel_rfl) (M6954.preNil 8) (by kernel_rfl) (by kernel_rfl) (by kernel_rfl) (by kernel_rfl) (allOb_cons ?_ (allOb_cons ?_ (allOb_cons ?_ (allOb_cons ?_ (allOb_cons ?_ (allOb_cons ?_ (allOb_cons ?_ (allOb_cons ?_ allOb_nil)))))))) ?_
    · intro g6957 f6958
      intro R w6982 M6983
      refine W_run 1 [(9, .slice p6938 x6936.length c6939)] w6982 (by kernel_rfl) ?_
      exact W_nil (ob_end (.slice p6938 x6936.length c6939) [] rfl (by kernel_rfl) ⟨by kernel_rfl, rfl⟩ M6983)
    · intro g6957 f6958
      intro v0_ hb0_
      obtain ⟨rfl, _⟩ := hb0_
      intro R w6986 M6987
      refine W_call 75 #[.slice p6938 x6936.length c6939] (by kernel_rfl) (by kernel_rfl) ?_
      refine (c_slices_Clone_75 w6986 x6936 p6938 c6939 (h6940.mem0 M6987) hr6959).mono ?_
      rintro e_ w6988 ⟨p6961, c6962, sg6963, rfl, ho6964, K6990⟩
      refine ⟨_, rfl, ?_⟩
      exact W_nil (ob_end (.slice p6961 r6959.length c6962) sg6963 rfl (by kernel_rfl) ⟨p6961, c6962, rfl, ho6964⟩ (Mem.callMid M6987 K6990))
    · intro g6957 f6958
      intro R w6991 M6992
      refine W_val (.agg #[.int .i64 x6941.Base, .int .i64 x6941.Size, .int .i64 x6941.Kind, .int .i64 x6941.Unit]) w6991 (by kernel_rfl) (E_load (e := 59) (fr := (0, 0)) _ _ true 4 b6947 0 [.int .i64 x6941.Base, .int .i64 x6941.Size, .int .i64 x6941.Kind, .int .i64 x6941.Unit] (.agg #[.int .i64 x6941.Base, .int .i64 x6941.Size, .int .i64 x6941.Kind, .int .i64 x6941.Unit]) rfl (by kernel_rfl) (by kernel_rfl) (by kernel_rfl) (M6992.blk 0 (b := b6947) (o := .cells ⟨[.int .i64 x6941.Base, .int .i64 x6941.Size, .int .i64 x6941.Kind, .int .i64 x6941.Unit]⟩ 59 (0, 0)) (by kernel_rfl))) ?_
      exact W_nil (ob_end (.agg #[.int .i64 x6941.Base, .int .i64 x6941.Size, .int .i64 x6941.Kind, .int .i64 x6941.Unit]) [] rfl (by kernel_rfl) ⟨by kernel_rfl, rfl⟩ M6992)
    · intro g6957 f6958
      intro v2_ hb2_
      obtain ⟨rfl, _⟩ := hb2_
      intro R w6995 M6996
      refine W_lit (E := encRegion) [x6941] 1 [.int .i64 x6941.Base, .int .i64 x6941.Size, .int .i64 x6941.Kind, .int .i64 x6941.Unit] 59 M6996 (by kernel_rfl) (by kernel_rfl) (by kernel_rfl) (by kernel_rfl) (by kernel_rfl) ?_
      intro p6966 c6967 sg6968 w6997 ho6969 M6998
      exact W_nil (ob_end (.slice p6966 [x6941].length c6967) sg6968 rfl (by kernel_rfl) ⟨p6966, c6967, rfl, ho6969⟩ (Mem.mid M6998))
    · intro g6957 f6958
      intro v1_ hb1_
      obtain ⟨p6961, c6962, rfl, ho6964⟩ := hb1_
      intro v3_ hb3_
      obtain ⟨p6966, c6967, rfl, ho6969⟩ := hb3_
      intro R w6999 M7000
      refine W_append (E := encRegion) _ _ _ 32 [.int .i64 0, .int .i64 0, .int .i64 0, .int .i64 0] 2 c6967 M7000 ho6964 (by kernel_rfl) (by kernel_rfl) (by kernel_rfl) rfl (by kernel_rfl) (by kernel_rfl) (by kernel_rfl) (by kernel_rfl) (by kernel_rfl) (by kernel_rfl) (ho6969.rd M7000 3 (by kernel_rfl)) hap6970 ?_
      intro p6972 c6973 sg6974 w7001 ho6975 M7002
      exact W_nil (ob_end (.slice p6972 ap6970.length c6973) sg6974 rfl (by kernel_rfl) ⟨p6972, c6973, rfl, ho6975⟩ (Mem.takeOver M7002))
    · intro g6957 f6958
      intro v4_ hb4_
      obtain ⟨p6972, c6973, rfl, ho6975⟩ := hb4_
      intro R w7003 M7004
      refine W_call 74 #[.slice p6972 ap6970.length c6973] (by kernel_rfl) (by kernel_rfl) ?_
      refine (c_i_asMap w7003 ap6970 p6972 c6973 (ho6975.rd M7004 2 (by kernel_rfl)) hr6976).mono ?_
      rintro e_ w7005 ⟨p6978, c6979, sg6980, rfl, ho6981, K7007⟩
      refine ⟨_, rfl, ?_⟩
      exact W_nil (ob_end (.tuple #[.slice p6978 r6976.1.length c6979, .bool r6976.2]) sg6980 rfl (by kernel_rfl) ⟨p6978, c6979, rfl, ho6981⟩ (Mem.callMid M7004 K7007))
    · intro g6957 f6958
      intro v5_ hb5_
      obtain ⟨_, p6978, c6979, rfl, _⟩ := hb5_
      intro R w7008 M7009
      refine W_run 1 [(15, .slice p6978 r6976.1.length c6979)] w7008 (by kernel_rfl) ?_
      exact W_nil (ob_end (.slice p6978 r6976.1.length c6979) [] rfl (by kernel_rfl) ⟨by kernel_rfl, rfl⟩ M7009)
    · intro g6957 f6958
      intro v5_ hb5_
      obtain ⟨_, p6978, c6979, rfl, _⟩ := hb5_
      intro R w7012 M7013
      refine W_run 1 [(16, .bool r6976.2)] w7012 (by kernel_rfl) ?_
      exact W_nil (ob_end (.bool r6976.2) [] rfl (by kernel_rfl) ⟨by kernel_rfl, rfl⟩ M7013)
    · intro g6957 f6958
      intro v3_ hb3_
      obtain ⟨p6966, c6967, rfl, ho6969⟩ := hb3_
      intro v4_ hb4_
      obtain ⟨p6972, c6973, rfl, ho6975⟩ := hb4_
      intro v5_ hb5_
      obtain ⟨p6978, c6979, rfl, ho6981⟩ := hb5_
      intro v6_ hb6_
      obtain ⟨hv6_, _⟩ := hb6_
      obtain rfl : v6_ = (.slice p6978 r6976.1.length c6979 : Value) := hv6_.trans (by kernel_rfl)
      intro v7_ hb7_
      obtain ⟨rfl, _⟩ := hb7_
      intro w7016 M7017
      have M7018 : Mem [] w w7016 [[(b6947, .cells ⟨[.int .i64 x6941.Base, .int .i64 x6941.Size, .int .i64 x6941.Kind, .int .i64 x6941.Unit]⟩ 59 (0, 0))], (g6957 3), (g6957 4), (g6957 5)] := M7017
      refine W_run 2 [(4, .slice p6978 r6976.1.length c6979), (5, .bool r6976.2)] w7016 (by kernel_rfl) ?_
      refine W_nil ?_
      refine N_then ?_
      refine G_ret ?_
      obtain rfl := Option.some.inj hm
      refine N_ret [.slice p6978 r6976.1.length c6979, .bool r6976.2] (RVs_cons (RV_tmp (by kernel_rfl)) (RVs_cons (RV_tmp (by kernel_rfl)) RVs_nil)) ?_
      exact ⟨p6978, c6979, (g6957 5), rfl, ho6981, M7018.pick [3] (by kernel_rfl)⟩
theorem c_l_heldRegionS (w : World) (x7094 : List Region) (p7096 : Option Addr) (c7097 : Nat) (h7098 : rdS encRegion w x7094 p7096 c7097) (x7099 : Int) {r : Int} (hm : M.l_heldRegionS x7094 x7099 = some r) :
    Calls Try.prog 37 #[.slice p7096 x7094.length c7097, .int .i64 x7099] w fun e w' => e = .returned (.int .i64 r) ∧ Mem [] w w' [] := by
  unfold M.l_heldRegionS at hm
  refine C_enter Try.func37 rfl (by kernel_rfl) ?_
  have M0 := Mem.refl [] w
  refine G_seq ?_
  refine G_region ?_
  refine W_run 1 [(0, .slice p7096 x7094.length c7097), (1, .int .i64 x7099)] w (by kernel_rfl) ?_
  refine W_nil ?_
  refine N_then ?_
  refine G_seq ?_
  refine G_seq ?_
  refine G_region ?_
  refine W_run 1 [(0, .slice p7096 x7094.length c7097), (1, .int .i64 x7099), (5, .int .i64 0)] w (by kernel_rfl) ?_
  refine W_nil ?_
  refine N_then ?_
  obtain ⟨out7125, hw7126, hmo7127⟩ := gx_bind hm
  refine G_meet (fun a w' => ∃ (o7128 : Int), out7125 = .inl o7128 ∧ Mem [] w w' [] ∧ Sat Try.f37.ntmps [(1, .int .i64 o7128)] a) ?_ ?_
  · refine G_block ?_
    refine G_while (σ := Int × Int) (ρ := (Int) ⊕ (Int)) (fun s7118 a w' => Mem [] w w' [] ∧ Sat Try.f37.ntmps [(0, .slice p7096 x7094.length c7097), (1, .int .i64 s7118.1), (5, .int .i64 s7118.2)] a) hw7126 (fun a ha => ⟨M0.pick [] (by kernel_rfl), ha.sub (by kernel_rfl)⟩) ?_
    clear hm
    intro s7118 x7119 hm hout7120 a7121 w7122 ⟨M7123, hS7124⟩
    refine G_use hS7124 ?_
    refine G_seq ?_
    refine G_seq ?_
    refine G_region ?_
    refine W_run 4 [(0, .slice p7096 x7094.length c7097), (1, .int .i64 s7118.1), (5, .int .i64 s7118.2), (9, .bool (decide (s7118.2 < (x7094.length : Int))))] w7122 (by kernel_rfl) ?_
    refine W_nil ?_
    refine N_then ?_
    rcases gx_bif hm with ⟨hc7129, hm⟩ | ⟨hc7129, hm⟩
    · refine G_cond_t (b := (decide (s7118.2 < (x7094.length : Int)))) hc7129 (by kernel_rfl) ?_
      refine G_skip ?_
      refine N_then ?_
      refine G_seq ?_
      refine G_block ?_
      refine G_seq ?_
      refine G_seq ?_
      refine G_region ?_
      refine W_run 2 [(0, .slice p7096 x7094.length c7097), (1, .int .i64 s7118.1), (5, .int .i64 s7118.2), (12, .slice p7096 x7094.length c7097), (13, .int .i64 s7118.2)] w7122 (by kernel_rfl) ?_
      obtain ⟨y7130, hy7130, hm⟩ := gx_bind hm
      refine W_val (elemP p7096 (s7118.2.toNat * 4)) w7122 (by kernel_rfl) (E_index (E := encRegion) _ _ _ x7094.length c7097 .i64 s7118.2 4 (y := y7130) rfl (by kernel_rfl) (by kernel_rfl) (by kernel_rfl) (h7098.mem0 M7123) rfl hy7130) ?_
      refine W_val (elemP p7096 (s7118.2.toNat * 4 + 0)) w7122 (by kernel_rfl) (E_fieldE (E := encRegion) _ _ 0 (s7118.2.toNat * 4) 0 rfl (by kernel_rfl) (by kernel_rfl) (h7098.mem0 M7123) hy7130) ?_
      refine W_val (.int .i64 y7130.Base) w7122 (by kernel_rfl) (E_loadE (E := encRegion) _ _ false 1 s7118.2 0 (s7118.2.toNat * 4 + 0) y7130 (.int .i64 y7130.Base) rfl (by kernel_rfl) (by kernel_rfl) (by kernel_rfl) (h7098.mem0 M7123) hy7130 rfl) ?_
      refine W_run 2 [(0, .slice p7096 x7094.length c7097), (1, .int .i64 s7118.1), (5, .int .i64 s7118.2), (18, .bool (y7130.Base != s7118.1))] w7122 (by kernel_rfl) ?_
      refine W_nil ?_
      refine N_then ?_
      rcases gx_bif hm with ⟨hc7131, hm⟩ | ⟨hc7131, hm⟩
      · refine G_cond_t (b := (y7130.Base != s7118.1)) hc7131 (by kernel_rfl) ?_
        refine G_seq ?_
        refine G_region ?_
        refine W_run 1 [(4, .int .i64 (-1))] w7122 (by kernel_rfl) ?_
        refine W_nil ?_
        refine N_then ?_
        refine G_ret ?_
        refine N_then_ret ?_
        refine N_block_ret ?_
        refine N_then_ret ?_
        refine N_then_ret ?_
        obtain rfl := Option.some.inj hm
        obtain rfl := hout7120 _ rfl
        have hm := hmo7127; simp only [Sum.elim_inr] at hm
        refine N_block_ret ?_
        refine N_meet_ret ?_
        refine N_then_ret ?_
        obtain rfl := Option.some.inj hm
        refine N_ret [.int .i64 (-1)] (RVs_cons (RV_tmp (by kernel_rfl)) RVs_nil) ?_
        exact ⟨rfl, M7123.pick [] (by kernel_rfl)⟩
      · refine G_cond_f (b := (y7130.Base != s7118.1)) hc7131 (by kernel_rfl) ?_
        refine G_skip ?_
        refine N_then ?_
        refine G_seq ?_
        refine G_region ?_
        refine W_run 3 [(0, .slice p7096 x7094.length c7097), (1, .int .i64 (w64 (s7118.1 + 1))), (5, .int .i64 s7118.2)] w7122 (by kernel_rfl) ?_
        refine W_nil ?_
        refine N_then ?_
        refine G_seq ?_
        refine G_seq ?_
        refine G_region ?_
        refine W_run 2 [(0, .slice p7096 x7094.length c7097), (1, .int .i64 (w64 (s7118.1 + 1))), (5, .int .i64 s7118.2), (21, .slice p7096 x7094.length c7097), (22, .int .i64 s7118.2)] w7122 (by kernel_rfl) ?_
        obtain ⟨y7132, hy7132, hm⟩ := gx_bind hm
        refine W_val (elemP p7096 (s7118.2.toNat * 4)) w7122 (by kernel_rfl) (E_index (E := encRegion) _ _ _ x7094.length c7097 .i64 s7118.2 4 (y := y7132) rfl (by kernel_rfl) (by kernel_rfl) (by kernel_rfl) (h7098.mem0 M7123) rfl hy7132) ?_
        refine W_val (elemP p7096 (s7118.2.toNat * 4 + 1)) w7122 (by kernel_rfl) (E_fieldE (E := encRegion) _ _ 1 (s7118.2.toNat * 4) 1 rfl (by kernel_rfl) (by kernel_rfl) (h7098.mem0 M7123) hy7132) ?_
        refine W_val (.int .i64 y7132.Size) w7122 (by kernel_rfl) (E_loadE (E := encRegion) _ _ false 1 s7118.2 1 (s7118.2.toNat * 4 + 1) y7132 (.int .i64 y7132.Size) rfl (by kernel_rfl) (by kernel_rfl) (by kernel_rfl) (h7098.mem0 M7123) hy7132 rfl) ?_
        refine W_run 2 [(0, .slice p7096 x7094.length c7097), (1, .int .i64 (w64 (s7118.1 + 1))), (5, .int .i64 s7118.2), (27, .bool (y7132.Size != (w64 (s7118.1 + 1))))] w7122 (by kernel_rfl) ?_
        refine W_nil ?_
        refine N_then ?_
        rcases gx_bif hm with ⟨hc7133, hm⟩ | ⟨hc7133, hm⟩
        · refine G_cond_t (b := (y7132.Size != (w64 (s7118.1 + 1)))) hc7133 (by kernel_rfl) ?_
          refine G_seq ?_
          refine G_region ?_
          refine W_run 1 [(4, .int .i64 (-1))] w7122 (by kernel_rfl) ?_
          refine W_nil ?_
          refine N_then ?_
          refine G_ret ?_
          refine N_then_ret ?_
          refine N_block_ret ?_
          refine N_then_ret ?_
          refine N_then_ret ?_
          obtain rfl := Option.some.inj hm
          obtain rfl := hout7120 _ rfl
          have hm := hmo7127; simp only [Sum.elim_inr] at hm
          refine N_block_ret ?_
          refine N_meet_ret ?_
          refine N_then_ret ?_
          obtain rfl := Option.some.inj hm
          refine N_ret [.int .i64 (-1)] (RVs_cons (RV_tmp (by kernel_rfl)) RVs_nil) ?_
          exact ⟨rfl, M7123.pick [] (by kernel_rfl)⟩
        · refine G_cond_f (b := (y7132.Size != (w64 (s7118.1 + 1)))) hc7133 (by kernel_rfl) ?_
          refine G_skip ?_
          refine N_then ?_
          refine G_seq ?_
          refine G_region ?_
          refine W_run 3 [(0, .slice p7096 x7094.length c7097), (1, .int .i64 (w64 ((w64 (s7118.1 + 1)) + 1))), (5, .int .i64 s7118.2)] w7122 (by kernel_rfl) ?_
          refine W_nil ?_
          refine N_then ?_
          refine G_seq ?_
          refine G_seq ?_
          refine G_region ?_
          refine W_run 2 [(0, .slice p7096 x7094.length c7097), (1, .int .i64 (w64 ((w64 (s7118.1 + 1)) + 1))), (5, .int .i64 s7118.2), (30, .slice p7096 x7094.length c7097), (31, .int .i64 s7118.2)] w7122 (by kernel_rfl) ?_
          obtain ⟨y7134, hy7134, hm⟩ := gx_bind hm
          refine W_val (elemP p7096 (s7118.2.toNat * 4)) w7122 (by kernel_rfl) (E_index (E := encRegion) _ _ _ x7094.length c7097 .i64 s7118.2 4 (y := y7134) rfl (by kernel_rfl) (by kernel_rfl) (by kernel_rfl) (h7098.mem0 M7123) rfl hy7134) ?_
          refine W_val (elemP p7096 (s7118.2.toNat * 4 + 2)) w7122 (by kernel_rfl) (E_fieldE (E := encRegion) _ _ 2 (s7118.2.toNat * 4) 2 rfl (by kernel_rfl) (by kernel_rfl) (h7098.mem0 M7123) hy7134) ?_
          refine W_val (.int .i64 y7134.Kind) w7122 (by kernel_rfl) (E_loadE (E := encRegion) _ _ false 1 s7118.2 2 (s7118.2.toNat * 4 + 2) y7134 (.int .i64 y7134.Kind) rfl (by kernel_rfl) (by kernel_rfl) (by kernel_rfl) (h7098.mem0 M7123) hy7134 rfl) ?_
          refine W_run 2 [(0, .slice p7096 x7094.length c7097), (1, .int .i64 (w64 ((w64 (s7118.1 + 1)) + 1))), (5, .int .i64 s7118.2), (36, .bool (y7134.Kind != (w64 ((w64 (s7118.1 + 1)) + 1))))] w7122 (by kernel_rfl) ?_
          refine W_nil ?_
          refine N_then ?_
          rcases gx_bif hm with ⟨hc7135, hm⟩ | ⟨hc7135, hm⟩
          · refine G_cond_t (b := (y7134.Kind != (w64 ((w64 (s7118.1 + 1)) + 1)))) hc7135 (by kernel_rfl) ?_
            refine G_seq ?_
            refine G_region ?_
            refine W_run 1 [(4, .int .i64 (-1))] w7122 (by kernel_rfl) ?_
            refine W_nil ?_
            refine N_then ?_
            refine G_ret ?_
            refine N_then_ret ?_
            refine N_block_ret ?_
            refine N_then_ret ?_
            refine N_then_ret ?_
            obtain rfl := Option.some.inj hm
            obtain rfl := hout7120 _ rfl
            have hm := hmo7127; simp only [Sum.elim_inr] at hm
            refine N_block_ret ?_
            refine N_meet_ret ?_
            refine N_then_ret ?_
            obtain rfl := Option.some.inj hm
            refine N_ret [.int .i64 (-1)] (RVs_cons (RV_tmp (by kernel_rfl)) RVs_nil) ?_
            exact ⟨rfl, M7123.pick [] (by kernel_rfl)⟩
          · refine G_cond_f (b := (y7134.Kind != (w64 ((w64 (s7118.1 + 1)) + 1)))) hc7135 (by kernel_rfl) ?_
            refine G_skip ?_
            refine N_then ?_
            refine G_seq ?_
            refine G_region ?_
            refine W_run 3 [(0, .slice p7096 x7094.length c7097), (1, .int .i64 (w64 ((w64 ((w64 (s7118.1 + 1)) + 1)) + 1))), (5, .int .i64 s7118.2)] w7122 (by kernel_rfl) ?_
            refine W_nil ?_
            refine N_then ?_
            refine G_seq ?_
            refine G_seq ?_
            refine G_region ?_
            refine W_run 2 [(0, .slice p7096 x7094.length c7097), (1, .int .i64 (w64 ((w64 ((w64 (s7118.1 + 1)) + 1)) + 1))), (5, .int .i64 s7118.2), (39, .slice p7096 x7094.length c7097), (40, .int .i64 s7118.2)] w7122 (by kernel_rfl) ?_
            obtain ⟨y7136, hy7136, hm⟩ := gx_bind hm
            refine W_val (elemP p7096 (s7118.2.toNat * 4)) w7122 (by kernel_rfl) (E_index (E := encRegion) _ _ _ x7094.length c7097 .i64 s7118.2 4 (y := y7136) rfl (by kernel_rfl) (by kernel_rfl) (by kernel_rfl) (h7098.mem0 M7123) rfl hy7136) ?_
            refine W_val (elemP p7096 (s7118.2.toNat * 4 + 3)) w7122 (by kernel_rfl) (E_fieldE (E := encRegion) _ _ 3 (s7118.2.toNat * 4) 3 rfl (by kernel_rfl) (by kernel_rfl) (h7098.mem0 M7123) hy7136) ?_
            refine W_val (.int .i64 y7136.Unit) w7122 (by kernel_rfl) (E_loadE (E := encRegion) _ _ false 1 s7118.2 3 (s7118.2.toNat * 4 + 3) y7136 (.int .i64 y7136.Unit) rfl (by kernel_rfl) (by kernel_rfl) (by kernel_rfl) (h7098.mem0 M7123) hy7136 rfl) ?_
            refine W_run 2 [(0, .slice p7096 x7094.length c7097), (1, .int .i64 (w64 ((w64 ((w64 (s7118.1 + 1)) + 1)) + 1))), (5, .int .i64 s7118.2), (45, .bool (y7136.Unit != (w64 ((w64 ((w64 (s7118.1 + 1)) + 1)) + 1))))] w7122 (by kernel_rfl) ?_
            refine W_nil ?_
            refine N_then ?_
            rcases gx_bif hm with ⟨hc7137, hm⟩ | ⟨hc7137, hm⟩
            · refine G_cond_t (b := (y7136.Unit != (w64 ((w64 ((w64 (s7118.1 + 1)) + 1)) + 1)))) hc7137 (by kernel_rfl) ?_
              refine G_seq ?_
              refine G_region ?_
              refine W_run 1 [(4, .int .i64 (-1))] w7122 (by kernel_rfl) ?_
              refine W_nil ?_
              refine N_then ?_
              refine G_ret ?_
              refine N_then_ret ?_
              refine N_block_ret ?_
              refine N_then_ret ?_
              refine N_then_ret ?_
              obtain rfl := Option.some.inj hm
              obtain rfl := hout7120 _ rfl
              have hm := hmo7127; simp only [Sum.elim_inr] at hm
              refine N_block_ret ?_
              refine N_meet_ret ?_
              refine N_then_ret ?_
              obtain rfl := Option.some.inj hm
              refine N_ret [.int .i64 (-1)] (RVs_cons (RV_tmp (by kernel_rfl)) RVs_nil) ?_
              exact ⟨rfl, M7123.pick [] (by kernel_rfl)⟩
            · refine G_cond_f (b := (y7136.Unit != (w64 ((w64 ((w64 (s7118.1 + 1)) + 1)) + 1)))) hc7137 (by kernel_rfl) ?_
              refine G_skip ?_
              refine N_then ?_
              refine G_region ?_
              refine W_run 3 [(0, .slice p7096 x7094.length c7097), (1, .int .i64 (w64 ((w64 ((w64 ((w64 (s7118.1 + 1)) + 1)) + 1)) + 1))), (5, .int .i64 s7118.2)] w7122 (by kernel_rfl) ?_
              refine W_nil ?_
              refine N_block ?_
              refine N_then ?_
              refine G_region ?_
              refine W_run 3 [(0, .slice p7096 x7094.length c7097), (1, .int .i64 (w64 ((w64 ((w64 ((w64 (s7118.1 + 1)) + 1)) + 1)) + 1))), (5, .int .i64 (w64 (s7118.2 + 1)))] w7122 (by kernel_rfl) ?_
              refine W_nil ?_
              obtain rfl := Option.some.inj hm
              exact N_loop fun a ha => ⟨_, rfl, M7123.pick [] (by kernel_rfl), ha.sub (by kernel_rfl)⟩
    · refine G_cond_f (b := (decide (s7118.2 < (x7094.length : Int)))) hc7129 (by kernel_rfl) ?_
      refine G_exit ?_
      refine N_then_exit ?_
      refine N_then_exit ?_
      refine N_block_eq ?_
      obtain rfl := Option.some.inj hm
      obtain rfl := hout7120 _ rfl
      exact N_meet fun a ha => ⟨_, rfl, M7123.pick [] (by kernel_rfl), ha.sub (by kernel_rfl)⟩
  · intro a7138 w7139 ⟨o7128, hout_, M7140, hS7141⟩
    refine N_use hS7141 ?_
    subst hout_
    have hm := hmo7127; simp only [Sum.elim_inl] at hm
    refine N_then ?_
    refine G_seq ?_
    refine G_region ?_
    refine W_run 2 [(4, .int .i64 o7128)] w7139 (by kernel_rfl) ?_
    refine W_nil ?_
    refine N_then ?_
    refine G_ret ?_
    obtain rfl := Option.some.inj hm
    refine N_ret [.int .i64 o7128] (RVs_cons (RV_tmp (by kernel_rfl)) RVs_nil) ?_
    exact ⟨rfl, M7140.pick [] (by kernel_rfl)⟩
theorem c_l_FnExactAddRegion (w : World) (x6776 : List Region) (p6778 : Option Addr) (c6779 : Nat) (h6780 : rdS encRegion w x6776 p6778 c6779) (x6781 : Region) {r : Bool} (hm : M.l_FnExactAddRegion x6776 x6781 = some r) :
    Calls Try.prog 8 #[.slice p6778 x6776.length c6779, .agg #[.int .i64 x6781.Base, .int .i64 x6781.Size, .int .i64 x6781.Kind, .int .i64 x6781.Unit]] w fun e w' => e = .returned (.bool r) ∧ Mem [] w w' [] := by
  unfold M.l_FnExactAddRegion at hm
  refine C_enter Try.func8 rfl (by kernel_rfl) ?_
  have M0 := Mem.refl [] w
  refine G_seq ?_
  refine G_region ?_
  refine W_new (fun b => .pointer (some ⟨b, 0, none⟩)) (.cells ⟨[.int .i64 x6781.Base, .int .i64 x6781.Size, .int .i64 x6781.Kind, .int .i64 x6781.Unit]⟩ 56 (0, 0)) M0 rfl (by kernel_rfl) (by kernel_rfl) ?_
  intro b6783 w6784 M6785
  refine W_run 1 [(0, .slice p6778 x6776.length c6779), (3, .pointer (some ⟨b6783, 0, none⟩))] w6784 (by kernel_rfl) ?_
  refine W_nil ?_
  refine N_then ?_
  refine G_seq ?_
  refine G_region ?_
  refine W_run 1 [(0, .slice p6778 x6776.length c6779), (3, .pointer (some ⟨b6783, 0, none⟩)), (5, .int .i64 1048576)] w6784 (by kernel_rfl) ?_
  refine W_nil ?_
  refine N_then ?_
  refine G_seq ?_
  refine G_region ?_
  refine W_run 2 [(0, .slice p6778 x6776.length c6779), (3, .pointer (some ⟨b6783, 0, none⟩)), (5, .int .i64 1048576), (16, .slice p6778 x6776.length c6779), (17, .int .i64 1048576)] w6784 (by kernel_rfl) ?_
  obtain ⟨r6786, hr6786, hm⟩ := gx_bind hm
  refine W_call 15 #[.slice p6778 x6776.length c6779, .int .i64 1048576] (by kernel_rfl) (by kernel_rfl) ?_
  refine (c_l_szRegionS w6784 x6776 p6778 c6779 (h6780.mem0 M6785) 1048576 hr6786).mono ?_
  rintro e_ w6787 ⟨rfl, K6788⟩
  have M6789 := M6785.call0 K6788
  refine ⟨_, rfl, ?_⟩
  refine W_run 1 [(0, .slice p6778 x6776.length c6779), (3, .pointer (some ⟨b6783, 0, none⟩)), (5, .int .i64 r6786)] w6787 (by kernel_rfl) ?_
  refine W_nil ?_
  refine N_then ?_
  refine G_seq ?_
  refine G_seq ?_
  refine G_region ?_
  refine W_run 2 [(0, .slice p6778 x6776.length c6779), (3, .pointer (some ⟨b6783, 0, none⟩)), (20, .bool (decide (r6786 < 0)))] w6787 (by kernel_rfl) ?_
  refine W_nil ?_
  refine N_then ?_
  rcases gx_bif hm with ⟨hc6790, hm⟩ | ⟨hc6790, hm⟩
  · refine G_cond_t (b := (decide (r6786 < 0))) hc6790 (by kernel_rfl) ?_
    refine G_seq ?_
    refine G_region ?_
    refine W_run 1 [(4, .bool true)] w6787 (by kernel_rfl) ?_
    refine W_nil ?_
    refine N_then ?_
    refine G_ret ?_
    refine N_then_ret ?_
    obtain rfl := Option.some.inj hm
    refine N_ret [.bool true] (RVs_cons (RV_tmp (by kernel_rfl)) RVs_nil) ?_
    exact ⟨rfl, M6789.pick [] (by kernel_rfl)⟩
  · refine G_cond_f (b := (decide (r6786 < 0))) hc6790 (by kernel_rfl) ?_
    refine G_skip ?_
    refine N_then ?_
    refine G_seq ?_
    obtain ⟨r6793, hr6793, hm⟩ := gx_bind hm
    obtain ⟨r6799, hr6799, hm⟩ := gx_bind hm
    obtain ⟨r6875, hr6875, hm⟩ := gx_bind hm
    refine G_sub [(0, .slice p6778 x6776.length c6779), (3, .pointer (some ⟨b6783, 0, none⟩)), (20, .bool (decide (r6786 < 0)))] (by kernel_rfl) ?_
    refine G_dagL 9 [[], [0], [], [2], [1, 3], [], [5], [5], [6]] [[], [], [], [], [], [], [], [], []] [[], [], [], [], [1], [], [], [], []] [[], [], [], [], [], [4], [4], [4], [4]] [[], [], [], [], [], [4], [4], [], [4]] [[], [], [], [], [], [], [], [], []] (fun _ => []) (fun i => ([fun f v s => v = (.slice p6778 x6776.length c6779 : Value) ∧ s = [], fun f v s => ∃ (p6795 : Option Addr) (c6796 : Nat), v = (.slice p6795 r6793.length c6796 : Value) ∧ ownS encRegion r6793 p6795 c6796 s, fun f v s => v = (.agg #[.int .i64 x6781.Base, .int .i64 x6781.Size, .int .i64 x6781.Kind, .int .i64 x6781.Unit] : Value) ∧ s = [], fun f v s => v = (.agg #[.int .i64 r6799.Base, .int .i64 r6799.Size, .int .i64 r6799.Kind, .int .i64 r6799.Unit] : Value) ∧ s = [], fun f v s => ∃ (p6877 : Option Addr) (c6878 : Nat), v = (.tuple #[.slice p6877 r6875.1.length c6878, .bool r6875.2] : Value) ∧ ownS encRegion r6875.1 p6877 c6878 s, fun f v s => v = (.tuple #[(atPath (f 4) [0]), .bool r6875.2] : Value) ∧ s = [], fun f v s => v = ((atPath (f 4) [0]) : Value) ∧ s = [], fun f v s => v = (.bool r6875.2 : Value) ∧ s = [], fun f v s => v = ((atPath (f 4) [0]) : Value) ∧ s = []] : List ((Nat → Value) → Value → Seg → Prop)).getD i (fun _ _ _ => False)) (fun j f v => ∃ s, (fun i => ([fun f v s => v = (.slice p6778 x6776.length c6779 : Value) ∧ s = [], fun f v s => ∃ (p6795 : Option Addr) (c6796 : Nat), v = (.slice p6795 r6793.length c6796 : Value) ∧ ownS encRegion r6793 p6795 c6796 s, fun f v s => v = (.agg #[.int .i64 x6781.Base, .int .i64 x6781.Size, .int .i64 x6781.Kind, .int .i64 x6781.Unit] : Value) ∧ s = [], fun f v s => v = (.agg #[.int .i64 r6799.Base, .int .i64 r6799.Size, .int .i64 r6799.Kind, .int .i64 r6799.Unit] : Value) ∧ s = [], fun f v s => ∃ (p6877 : Option Addr) (c6878 : Nat), v = (.tuple #[.slice p6877 r6875.1.length c6878, .bool r6875.2] : Value) ∧ ownS encRegion r6875.1 p6877 c6878 s, fun f v s => v = (.tuple #[(atPath (f 4) [0]), .bool r6875.2] : Value) ∧ s = [], fun f v s => v = ((atPath (f 4) [0]) : Value) ∧ s = [], fun f v s => v = (.bool r6875.2 : Value) ∧ s = [], fun f v s => v = ((atPath (f 4) [0]) : Value) ∧ s = []] : List ((Nat → Value) → Value → Seg → Prop)).getD i (fun _ _ _ => False)) j f v s) [] [1, 4, 7, 8] [1, 4] (fun _ _ _ s h => ⟨s, h⟩) (by kernel_rfl) (by kernel_rfl) (M6789.preNil 9) (by kernel_rfl) (by kernel_rfl) (by kernel_rfl) (by kernel_rfl) (allOb_cons ?_ (allOb_cons ?_ (allOb_cons ?_ (allOb_cons ?_ (allOb_cons ?_ (allOb_cons ?_ (allOb_cons ?_ (allOb_cons ?_ (allOb_cons ?_ allOb_nil))))))))) ?_
    · intro g6791 f6792
      intro R w6881 M6882
      refine W_run 1 [(22, .slice p6778 x6776.length c6779)] w6881 (by kernel_rfl) ?_
      exact W_nil (ob_end (.slice p6778 x6776.length c6779) [] rfl (by kernel_rfl) ⟨by kernel_rfl, rfl⟩ M6882)
    · intro g6791 f6792
      intro v0_ hb0_
      obtain ⟨rfl, _⟩ := hb0_
      intro R w6885 M6886
      refine W_call 17 #[.slice p6778 x6776.length c6779] (by kernel_rfl) (by kernel_rfl) ?_
      refine (c_l_toRegionS w6885 x6776 p6778 c6779 (h6780.mem0 M6886) hr6793).mono ?_
      rintro e_ w6887 ⟨p6795, c6796, sg6797, rfl, ho6798, K6889⟩
      refine ⟨_, rfl, ?_⟩
      exact W_nil (ob_end (.slice p6795 r6793.length c6796) sg6797 rfl (by kernel_rfl) ⟨p6795, c6796, rfl, ho6798⟩ (Mem.callMid M6886 K6889))
    · intro g6791 f6792
      intro R w6890 M6891
      refine W_val (.agg #[.int .i64 x6781.Base, .int .i64 x6781.Size, .int .i64 x6781.Kind, .int .i64 x6781.Unit]) w6890 (by kernel_rfl) (E_load (e := 56) (fr := (0, 0)) _ _ true 4 b6783 0 [.int .i64 x6781.Base, .int .i64 x6781.Size, .int .i64 x6781.Kind, .int .i64 x6781.Unit] (.agg #[.int .i64 x6781.Base, .int .i64 x6781.Size, .int .i64 x6781.Kind, .int .i64 x6781.Unit]) rfl (by kernel_rfl) (by kernel_rfl) (by kernel_rfl) (M6891.blk 0 (b := b6783) (o := .cells ⟨[.int .i64 x6781.Base, .int .i64 x6781.Size, .int .i64 x6781.Kind, .int .i64 x6781.Unit]⟩ 56 (0, 0)) (by kernel_rfl))) ?_
      exact W_nil (ob_end (.agg #[.int .i64 x6781.Base, .int .i64 x6781.Size, .int .i64 x6781.Kind, .int .i64 x6781.Unit]) [] rfl (by kernel_rfl) ⟨by kernel_rfl, rfl⟩ M6891)
    · intro g6791 f6792
      intro v2_ hb2_
      obtain ⟨rfl, _⟩ := hb2_
      intro R w6894 M6895
      refine W_call 35 #[.agg #[.int .i64 x6781.Base, .int .i64 x6781.Size, .int .i64 x6781.Kind, .int .i64 x6781.Unit]] (by kernel_rfl) (by kernel_rfl) ?_
      refine (c_l_toRegion w6894 x6781 hr6799).mono ?_
      rintro e_ w6896 ⟨rfl, K6898⟩
      refine ⟨_, rfl, ?_⟩
      exact W_nil (ob_end (.agg #[.int .i64 r6799.Base, .int .i64 r6799.Size, .int .i64 r6799.Kind, .int .i64 r6799.Unit]) [] rfl (by kernel_rfl) ⟨rfl, rfl⟩ (M6895.call0 K6898))
    · intro g6791 f6792
      intro v1_ hb1_
      obtain ⟨p6795, c6796, rfl, ho6798⟩ := hb1_
      intro v3_ hb3_
      obtain ⟨rfl, _⟩ := hb3_
      intro R w6899 M6900
      refine W_call 34 #[.slice p6795 r6793.length c6796, .agg #[.int .i64 r6799.Base, .int .i64 r6799.Size, .int .i64 r6799.Kind, .int .i64 r6799.Unit]] (by kernel_rfl) (by kernel_rfl) ?_
      refine (c_s_AddRegion w6899 r6793 p6795 c6796 (ho6798.rd M6900 2 (by kernel_rfl)) r6799 hr6875).mono ?_
      rintro e_ w6901 ⟨p6877, c6878, sg6879, rfl, ho6880, K6903⟩
      refine ⟨_, rfl, ?_⟩
      exact W_nil (ob_end (.tuple #[.slice p6877 r6875.1.length c6878, .bool r6875.2]) sg6879 rfl (by kernel_rfl) ⟨p6877, c6878, rfl, ho6880⟩ (Mem.callMid M6900 K6903))
    · intro g6791 f6792
      intro v4_ hb4_
      obtain ⟨_, p6877, c6878, rfl, _⟩ := hb4_
      intro R w6904 M6905
      refine W_run 1 [(21, .tuple #[.slice p6877 r6875.1.length c6878, .bool r6875.2])] w6904 (by kernel_rfl) ?_
      exact W_nil (ob_end (.tuple #[.slice p6877 r6875.1.length c6878, .bool r6875.2]) [] rfl (by kernel_rfl) ⟨by kernel_rfl, rfl⟩ M6905)
    · intro g6791 f6792
      intro v4_ hb4_
      obtain ⟨_, p6877, c6878, rfl, _⟩ := hb4_
      intro v5_ hb5_
      obtain ⟨hv5_, _⟩ := hb5_
      obtain rfl : v5_ = (.tuple #[.slice p6877 r6875.1.length c6878, .bool r6875.2] : Value) := hv5_.trans (by kernel_rfl)
      intro R w6908 M6909
      refine W_run 1 [(27, .slice p6877 r6875.1.length c6878)] w6908 (by kernel_rfl) ?_
      exact W_nil (ob_end (.slice p6877 r6875.1.length c6878) [] rfl (by kernel_rfl) ⟨by kernel_rfl, rfl⟩ M6909)
    · intro g6791 f6792
      intro v4_ hb4_
      obtain ⟨_, p6877, c6878, rfl, _⟩ := hb4_
      intro v5_ hb5_
      obtain ⟨hv5_, _⟩ := hb5_
      obtain rfl : v5_ = (.tuple #[.slice p6877 r6875.1.length c6878, .bool r6875.2] : Value) := hv5_.trans (by kernel_rfl)
      intro R w6912 M6913
      refine W_run 1 [(28, .bool r6875.2)] w6912 (by kernel_rfl) ?_
      exact W_nil (ob_end (.bool r6875.2) [] rfl (by kernel_rfl) ⟨by kernel_rfl, rfl⟩ M6913)
    · intro g6791 f6792
      intro v4_ hb4_
      obtain ⟨_, p6877, c6878, rfl, _⟩ := hb4_
      intro v6_ hb6_
      obtain ⟨hv6_, _⟩ := hb6_
      obtain rfl : v6_ = (.slice p6877 r6875.1.length c6878 : Value) := hv6_.trans (by kernel_rfl)
      intro R w6916 M6917
      refine W_run 1 [(6, .slice p6877 r6875.1.length c6878)] w6916 (by kernel_rfl) ?_
      exact W_nil (ob_end (.slice p6877 r6875.1.length c6878) [] rfl (by kernel_rfl) ⟨by kernel_rfl, rfl⟩ M6917)
    · intro g6791 f6792
      intro v1_ hb1_
      obtain ⟨p6795, c6796, rfl, ho6798⟩ := hb1_
      intro v4_ hb4_
      obtain ⟨p6877, c6878, rfl, ho6880⟩ := hb4_
      intro v7_ hb7_
      obtain ⟨rfl, _⟩ := hb7_
      intro v8_ hb8_
      obtain ⟨hv8_, _⟩ := hb8_
      obtain rfl : v8_ = (.slice p6877 r6875.1.length c6878 : Value) := hv8_.trans (by kernel_rfl)
      intro w6920 M6921
      have M6922 : Mem [] w w6920 [[(b6783, .cells ⟨[.int .i64 x6781.Base, .int .i64 x6781.Size, .int .i64 x6781.Kind, .int .i64 x6781.Unit]⟩ 56 (0, 0))], (g6791 1), (g6791 4)] := M6921
      refine W_run 1 [(0, .slice p6778 x6776.length c6779), (3, .pointer (some ⟨b6783, 0, none⟩)), (6, .slice p6877 r6875.1.length c6878), (7, .bool r6875.2)] w6920 (by kernel_rfl) ?_
      refine W_nil ?_
      refine N_then ?_
      refine G_seq ?_
      refine G_region ?_
      refine W_run 1 [(0, .slice p6778 x6776.length c6779), (3, .pointer (some ⟨b6783, 0, none⟩)), (6, .slice p6877 r6875.1.length c6878), (7, .bool r6875.2), (29, .slice p6778 x6776.length c6779)] w6920 (by kernel_rfl) ?_
      obtain ⟨r6923, hr6923, hm⟩ := gx_bind hm
      refine W_call 17 #[.slice p6778 x6776.length c6779] (by kernel_rfl) (by kernel_rfl) ?_
      refine (c_l_toRegionS w6920 x6776 p6778 c6779 (h6780.mem0 M6922) hr6923).mono ?_
      rintro e_ w6929 ⟨p6925, c6926, sg6927, rfl, ho6928, K6930⟩
      have M6931 := M6922.call K6930
      refine ⟨_, rfl, ?_⟩
      refine W_run 1 [(0, .slice p6778 x6776.length c6779), (3, .pointer (some ⟨b6783, 0, none⟩)), (6, .slice p6877 r6875.1.length c6878), (7, .bool r6875.2), (8, .slice p6925 r6923.length c6926)] w6929 (by kernel_rfl) ?_
      refine W_nil ?_
      refine N_then ?_
      refine G_seq ?_
      refine G_region ?_
      refine W_run 1 [(0, .slice p6778 x6776.length c6779), (3, .pointer (some ⟨b6783, 0, none⟩)), (6, .slice p6877 r6875.1.length c6878), (7, .bool r6875.2), (8, .slice p6925 r6923.length c6926), (32, .slice p6925 r6923.length c6926)] w6929 (by kernel_rfl) ?_
      refine W_val (.agg #[.int .i64 x6781.Base, .int .i64 x6781.Size, .int .i64 x6781.Kind, .int .i64 x6781.Unit]) w6929 (by kernel_rfl) (E_load (e := 56) (fr := (0, 0)) _ _ true 4 b6783 0 [.int .i64 x6781.Base, .int .i64 x6781.Size, .int .i64 x6781.Kind, .int .i64 x6781.Unit] (.agg #[.int .i64 x6781.Base, .int .i64 x6781.Size, .int .i64 x6781.Kind, .int .i64 x6781.Unit]) rfl (by kernel_rfl) (by kernel_rfl) (by kernel_rfl) (M6931.blk 0 (b := b6783) (o := .cells ⟨[.int .i64 x6781.Base, .int .i64 x6781.Size, .int .i64 x6781.Kind, .int .i64 x6781.Unit]⟩ 56 (0, 0)) (by kernel_rfl))) ?_
      obtain ⟨r6932, hr6932, hm⟩ := gx_bind hm
      refine W_call 35 #[.agg #[.int .i64 x6781.Base, .int .i64 x6781.Size, .int .i64 x6781.Kind, .int .i64 x6781.Unit]] (by kernel_rfl) (by kernel_rfl) ?_
      refine (c_l_toRegion w6929 x6781 hr6932).mono ?_
      rintro e_ w6933 ⟨rfl, K6934⟩
      have M6935 := M6931.call0 K6934
      refine ⟨_, rfl, ?_⟩
      obtain ⟨r7019, hr7019, hm⟩ := gx_bind hm
      refine W_call 36 #[.slice p6925 r6923.length c6926, .agg #[.int .i64 r6932.Base, .int .i64 r6932.Size, .int .i64 r6932.Kind, .int .i64 r6932.Unit]] (by kernel_rfl) (by kernel_rfl) ?_
      refine (c_i_AddRegion w6933 r6923 p6925 c6926 (ho6928.rd M6935 3 (by kernel_rfl)) r6932 hr7019).mono ?_
      rintro e_ w7025 ⟨p7021, c7022, sg7023, rfl, ho7024, K7026⟩
      have M7027 := M6935.call K7026
      refine ⟨_, rfl, ?_⟩
      refine W_run 5 [(0, .slice p6778 x6776.length c6779), (3, .pointer (some ⟨b6783, 0, none⟩)), (6, .slice p6877 r6875.1.length c6878), (7, .bool r6875.2), (8, .slice p6925 r6923.length c6926), (9, .slice p7021 r7019.1.length c7022), (10, .bool r7019.2)] w7025 (by kernel_rfl) ?_
      refine W_nil ?_
      refine N_then ?_
      refine G_seq ?_
      refine G_seq ?_
      obtain ⟨o7033, ho7034, hm7035⟩ := gx_bind hm
      refine G_meet (fun a w' => Mem [] w w' [[(b6783, .cells ⟨[.int .i64 x6781.Base, .int .i64 x6781.Size, .int .i64 x6781.Kind, .int .i64 x6781.Unit]⟩ 56 (0, 0))], (g6791 4), sg6927, sg7023] ∧ Sat Try.f8.ntmps [(0, .slice p6778 x6776.length c6779), (3, .pointer (some ⟨b6783, 0, none⟩)), (6, .slice p6877 r6875.1.length c6878), (7, .bool r6875.2), (8, .slice p6925 r6923.length c6926), (9, .slice p7021 r7019.1.length c7022), (10, .bool r7019.2), (46, .bool o7033)] a) ?_ ?_
      · have hm := ho7034
        refine G_region ?_
        refine W_run 2 [(0, .slice p6778 x6776.length c6779), (3, .pointer (some ⟨b6783, 0, none⟩)), (6, .slice p6877 r6875.1.length c6878), (7, .bool r6875.2), (8, .slice p6925 r6923.length c6926), (9, .slice p7021 r7019.1.length c7022), (10, .bool r7019.2), (38, .slice p7021 r7019.1.length c7022), (39, .slice p6877 r6875.1.length c6878)] w7025 (by kernel_rfl) ?_
        obtain ⟨r7036, hr7036, hm⟩ := gx_bind hm
        refine W_call 20 #[.slice p7021 r7019.1.length c7022, .slice p6877 r6875.1.length c6878] (by kernel_rfl) (by kernel_rfl) ?_
        refine (c_l_eqRegionS w7025 r7019.1 p7021 c7022 (ho7024.rd M7027 4 (by kernel_rfl)) r6875.1 p6877 c6878 (ho6880.rd M7027 2 (by kernel_rfl)) hr7036).mono ?_
        rintro e_ w7037 ⟨rfl, K7038⟩
        have M7039 := M7027.call0 K7038
        refine ⟨_, rfl, ?_⟩
        refine W_run 2 [(0, .slice p6778 x6776.length c6779), (3, .pointer (some ⟨b6783, 0, none⟩)), (6, .slice p6877 r6875.1.length c6878), (7, .bool r6875.2), (8, .slice p6925 r6923.length c6926), (9, .slice p7021 r7019.1.length c7022), (10, .bool r7019.2), (42, .bool (!r7036))] w7037 (by kernel_rfl) ?_
        rcases gx_bif hm with ⟨hc7040, hm⟩ | ⟨hc7040, hm⟩
        · refine W_known 42 true (by kernel_rfl) hc7040 ?_
          refine W_run 4 [(0, .slice p6778 x6776.length c6779), (3, .pointer (some ⟨b6783, 0, none⟩)), (6, .slice p6877 r6875.1.length c6878), (7, .bool r6875.2), (8, .slice p6925 r6923.length c6926), (9, .slice p7021 r7019.1.length c7022), (10, .bool r7019.2), (46, .bool true)] w7037 (by kernel_rfl) ?_
          refine W_nil ?_
          obtain rfl := Option.some.inj hm
          exact N_meet fun a ha => ⟨M7039.pick [0, 2, 3, 4] (by kernel_rfl), ha.sub (by kernel_rfl)⟩
        · refine W_known 42 false (by kernel_rfl) hc7040 ?_
          refine W_run 4 [(0, .slice p6778 x6776.length c6779), (3, .pointer (some ⟨b6783, 0, none⟩)), (6, .slice p6877 r6875.1.length c6878), (7, .bool r6875.2), (8, .slice p6925 r6923.length c6926), (9, .slice p7021 r7019.1.length c7022), (10, .bool r7019.2), (46, .bool (!(r7019.2 == r6875.2)))] w7037 (by kernel_rfl) ?_
          refine W_nil ?_
          obtain rfl := Option.some.inj hm
          exact N_meet fun a ha => ⟨M7039.pick [0, 2, 3, 4] (by kernel_rfl), ha.sub (by kernel_rfl)⟩
      · intro a7043 w7041 ⟨M7042, hS7044⟩
        refine N_use hS7044 ?_
        have hm := hm7035
        refine N_then ?_
        rcases gx_bif hm with ⟨hc7045, hm⟩ | ⟨hc7045, hm⟩
        · refine G_cond_t (b := o7033) hc7045 (by kernel_rfl) ?_
          refine G_seq ?_
          refine G_region ?_
          refine W_run 1 [(4, .bool false)] w7041 (by kernel_rfl) ?_
          refine W_nil ?_
          refine N_then ?_
          refine G_ret ?_
          refine N_then_ret ?_
          obtain rfl := Option.some.inj hm
          refine N_ret [.bool false] (RVs_cons (RV_tmp (by kernel_rfl)) RVs_nil) ?_
          exact ⟨rfl, M7042.pick [] (by kernel_rfl)⟩
        · refine G_cond_f (b := o7033) hc7045 (by kernel_rfl) ?_
          refine G_skip ?_
          refine N_then ?_
          refine G_seq ?_
          refine G_seq ?_
          refine G_region ?_
          refine W_run 2 [(0, .slice p6778 x6776.length c6779), (3, .pointer (some ⟨b6783, 0, none⟩)), (6, .slice p6877 r6875.1.length c6878), (7, .bool r6875.2), (8, .slice p6925 r6923.length c6926), (9, .slice p7021 r7019.1.length c7022), (10, .bool r7019.2), (47, .slice p6925 r6923.length c6926), (48, .slice p6778 x6776.length c6779)] w7041 (by kernel_rfl) ?_
          obtain ⟨r7046, hr7046, hm⟩ := gx_bind hm
          refine W_call 17 #[.slice p6778 x6776.length c6779] (by kernel_rfl) (by kernel_rfl) ?_
          refine (c_l_toRegionS w7041 x6776 p6778 c6779 (h6780.mem0 M7042) hr7046).mono ?_
          rintro e_ w7052 ⟨p7048, c7049, sg7050, rfl, ho7051, K7053⟩
          have M7054 := M7042.call K7053
          refine ⟨_, rfl, ?_⟩
          obtain ⟨r7055, hr7055, hm⟩ := gx_bind hm
          refine W_call 20 #[.slice p6925 r6923.length c6926, .slice p7048 r7046.length c7049] (by kernel_rfl) (by kernel_rfl) ?_
          refine (c_l_eqRegionS w7052 r6923 p6925 c6926 (ho6928.rd M7054 2 (by kernel_rfl)) r7046 p7048 c7049 (ho7051.rd M7054 4 (by kernel_rfl)) hr7055).mono ?_
          rintro e_ w7056 ⟨rfl, K7057⟩
          have M7058 := M7054.call0 K7057
          refine ⟨_, rfl, ?_⟩
          refine W_run 1 [(0, .slice p6778 x6776.length c6779), (3, .pointer (some ⟨b6783, 0, none⟩)), (6, .slice p6877 r6875.1.length c6878), (7, .bool r6875.2), (8, .slice p6925 r6923.length c6926), (9, .slice p7021 r7019.1.length c7022), (10, .bool r7019.2), (51, .bool (!r7055))] w7056 (by kernel_rfl) ?_
          refine W_nil ?_
          refine N_then ?_
          rcases gx_bif hm with ⟨hc7059, hm⟩ | ⟨hc7059, hm⟩
          · refine G_cond_t (b := (!r7055)) hc7059 (by kernel_rfl) ?_
            refine G_seq ?_
            refine G_region ?_
            refine W_run 1 [(4, .bool false)] w7056 (by kernel_rfl) ?_
            refine W_nil ?_
            refine N_then ?_
            refine G_ret ?_
            refine N_then_ret ?_
            obtain rfl := Option.some.inj hm
            refine N_ret [.bool false] (RVs_cons (RV_tmp (by kernel_rfl)) RVs_nil) ?_
            exact ⟨rfl, M7058.pick [] (by kernel_rfl)⟩
          · refine G_cond_f (b := (!r7055)) hc7059 (by kernel_rfl) ?_
            refine G_skip ?_
            refine N_then ?_
            refine G_seq ?_
            refine G_region ?_
            refine W_run 1 [(0, .slice p6778 x6776.length c6779), (3, .pointer (some ⟨b6783, 0, none⟩)), (6, .slice p6877 r6875.1.length c6878), (7, .bool r6875.2), (8, .slice p6925 r6923.length c6926), (9, .slice p7021 r7019.1.length c7022), (10, .bool r7019.2), (11, .int .i64 1)] w7056 (by kernel_rfl) ?_
            refine W_nil ?_
            refine N_then ?_
            refine G_seq ?_
            refine G_region ?_
            refine W_run 2 [(0, .slice p6778 x6776.length c6779), (3, .pointer (some ⟨b6783, 0, none⟩)), (6, .slice p6877 r6875.1.length c6878), (7, .bool r6875.2), (9, .slice p7021 r7019.1.length c7022), (10, .bool r7019.2), (11, .int .i64 1), (52, .slice p6925 r6923.length c6926), (53, .int .i64 1)] w7056 (by kernel_rfl) ?_
            obtain ⟨r7060, hr7060, hm⟩ := gx_bind hm
            refine W_call 24 #[.slice p6925 r6923.length c6926, .int .i64 1] (by kernel_rfl) (by kernel_rfl) ?_
            refine (c_l_markRegionS w7056 r6923 p6925 c6926 sg6927 ho6928 1 (M7058.hasPick [2]) (M7058.nodupPick [2] (by kernel_rfl)) hr7060).mono ?_
            rintro e_ w7064 ⟨sg7061, rfl, ho7062, hl7063, K7065⟩
            have M7066 := M7058.callF' [2] [0, 1, 3, 4] (by kernel_rfl) K7065
            refine ⟨_, rfl, ?_⟩
            refine W_conv 52 (.slice p6925 r6923.length c6926) (.slice p6925 r7060.2.length c6926) (by kernel_rfl) (by first | rw [hl7063] | rw [hl7063]) ?_
            refine W_run 1 [(0, .slice p6778 x6776.length c6779), (3, .pointer (some ⟨b6783, 0, none⟩)), (6, .slice p6877 r6875.1.length c6878), (7, .bool r6875.2), (9, .slice p7021 r7019.1.length c7022), (10, .bool r7019.2), (11, .int .i64 r7060.1)] w7064 (by kernel_rfl) ?_
            refine W_nil ?_
            refine N_then ?_
            refine G_seq ?_
            refine G_seq ?_
            obtain ⟨o7073, ho7074, hm7075⟩ := gx_bind hm
            refine G_meet (fun a w' => Mem [] w w' [[(b6783, .cells ⟨[.int .i64 x6781.Base, .int .i64 x6781.Size, .int .i64 x6781.Kind, .int .i64 x6781.Unit]⟩ 56 (0, 0))], (g6791 4), sg7023] ∧ Sat Try.f8.ntmps [(0, .slice p6778 x6776.length c6779), (3, .pointer (some ⟨b6783, 0, none⟩)), (6, .slice p6877 r6875.1.length c6878), (7, .bool r6875.2), (9, .slice p7021 r7019.1.length c7022), (67, .bool o7073)] a) ?_ ?_
            · have hm := ho7074
              refine G_region ?_
              refine W_run 3 [(0, .slice p6778 x6776.length c6779), (3, .pointer (some ⟨b6783, 0, none⟩)), (6, .slice p6877 r6875.1.length c6878), (7, .bool r6875.2), (9, .slice p7021 r7019.1.length c7022), (10, .bool r7019.2), (57, .bool (decide (r7060.1 < 0)))] w7064 (by kernel_rfl) ?_
              rcases gx_bif hm with ⟨hc7076, hm⟩ | ⟨hc7076, hm⟩
              · refine W_known 57 true (by kernel_rfl) hc7076 ?_
                refine W_run 10 [(0, .slice p6778 x6776.length c6779), (3, .pointer (some ⟨b6783, 0, none⟩)), (6, .slice p6877 r6875.1.length c6878), (7, .bool r6875.2), (9, .slice p7021 r7019.1.length c7022), (67, .bool true)] w7064 (by kernel_rfl) ?_
                refine W_nil ?_
                obtain rfl := Option.some.inj hm
                exact N_meet fun a ha => ⟨M7066.pick [0, 1, 2] (by kernel_rfl), ha.sub (by kernel_rfl)⟩
              · refine W_known 57 false (by kernel_rfl) hc7076 ?_
                refine W_run 2 [(0, .slice p6778 x6776.length c6779), (3, .pointer (some ⟨b6783, 0, none⟩)), (6, .slice p6877 r6875.1.length c6878), (7, .bool r6875.2), (9, .slice p7021 r7019.1.length c7022), (10, .bool r7019.2), (57, .bool false), (58, .slice p7021 r7019.1.length c7022), (59, .slice p6877 r6875.1.length c6878)] w7064 (by kernel_rfl) ?_
                obtain ⟨r7077, hr7077, hm⟩ := gx_bind hm
                refine W_call 20 #[.slice p7021 r7019.1.length c7022, .slice p6877 r6875.1.length c6878] (by kernel_rfl) (by kernel_rfl) ?_
                refine (c_l_eqRegionS w7064 r7019.1 p7021 c7022 (ho7024.rd M7066 2 (by kernel_rfl)) r6875.1 p6877 c6878 (ho6880.rd M7066 1 (by kernel_rfl)) hr7077).mono ?_
                rintro e_ w7078 ⟨rfl, K7079⟩
                have M7080 := M7066.call0 K7079
                refine ⟨_, rfl, ?_⟩
                refine W_run 3 [(0, .slice p6778 x6776.length c6779), (3, .pointer (some ⟨b6783, 0, none⟩)), (6, .slice p6877 r6875.1.length c6878), (7, .bool r6875.2), (9, .slice p7021 r7019.1.length c7022), (10, .bool r7019.2), (63, .bool (!r7077))] w7078 (by kernel_rfl) ?_
                rcases gx_bif hm with ⟨hc7081, hm⟩ | ⟨hc7081, hm⟩
                · refine W_known 63 true (by kernel_rfl) hc7081 ?_
                  refine W_run 4 [(0, .slice p6778 x6776.length c6779), (3, .pointer (some ⟨b6783, 0, none⟩)), (6, .slice p6877 r6875.1.length c6878), (7, .bool r6875.2), (9, .slice p7021 r7019.1.length c7022), (67, .bool true)] w7078 (by kernel_rfl) ?_
                  refine W_nil ?_
                  obtain rfl := Option.some.inj hm
                  exact N_meet fun a ha => ⟨M7080.pick [0, 1, 2] (by kernel_rfl), ha.sub (by kernel_rfl)⟩
                · refine W_known 63 false (by kernel_rfl) hc7081 ?_
                  refine W_run 4 [(0, .slice p6778 x6776.length c6779), (3, .pointer (some ⟨b6783, 0, none⟩)), (6, .slice p6877 r6875.1.length c6878), (7, .bool r6875.2), (9, .slice p7021 r7019.1.length c7022), (67, .bool (!(r7019.2 == r6875.2)))] w7078 (by kernel_rfl) ?_
                  refine W_nil ?_
                  obtain rfl := Option.some.inj hm
                  exact N_meet fun a ha => ⟨M7080.pick [0, 1, 2] (by kernel_rfl), ha.sub (by kernel_rfl)⟩
            · intro a7084 w7082 ⟨M7083, hS7085⟩
              refine N_use hS7085 ?_
              have hm := hm7075
              refine N_then ?_
              rcases gx_bif hm with ⟨hc7086, hm⟩ | ⟨hc7086, hm⟩
              · refine G_cond_t (b := o7073) hc7086 (by kernel_rfl) ?_
                refine G_seq ?_
                refine G_region ?_
                refine W_run 1 [(4, .bool false)] w7082 (by kernel_rfl) ?_
                refine W_nil ?_
                refine N_then ?_
                refine G_ret ?_
                refine N_then_ret ?_
                obtain rfl := Option.some.inj hm
                refine N_ret [.bool false] (RVs_cons (RV_tmp (by kernel_rfl)) RVs_nil) ?_
                exact ⟨rfl, M7083.pick [] (by kernel_rfl)⟩
              · refine G_cond_f (b := o7073) hc7086 (by kernel_rfl) ?_
                refine G_skip ?_
                refine N_then ?_
                refine G_seq ?_
                refine G_region ?_
                refine W_run 1 [(0, .slice p6778 x6776.length c6779), (3, .pointer (some ⟨b6783, 0, none⟩)), (6, .slice p6877 r6875.1.length c6878), (7, .bool r6875.2), (9, .slice p7021 r7019.1.length c7022), (12, .int .i64 1)] w7082 (by kernel_rfl) ?_
                refine W_nil ?_
                refine N_then ?_
                refine G_seq ?_
                refine G_region ?_
                refine W_run 2 [(0, .slice p6778 x6776.length c6779), (3, .pointer (some ⟨b6783, 0, none⟩)), (6, .slice p6877 r6875.1.length c6878), (7, .bool r6875.2), (9, .slice p7021 r7019.1.length c7022), (12, .int .i64 1), (68, .slice p7021 r7019.1.length c7022), (69, .int .i64 1)] w7082 (by kernel_rfl) ?_
                obtain ⟨r7087, hr7087, hm⟩ := gx_bind hm
                refine W_call 24 #[.slice p7021 r7019.1.length c7022, .int .i64 1] (by kernel_rfl) (by kernel_rfl) ?_
                refine (c_l_markRegionS w7082 r7019.1 p7021 c7022 sg7023 ho7024 1 (M7083.hasPick [2]) (M7083.nodupPick [2] (by kernel_rfl)) hr7087).mono ?_
                rintro e_ w7091 ⟨sg7088, rfl, ho7089, hl7090, K7092⟩
                have M7093 := M7083.callF' [2] [0, 1] (by kernel_rfl) K7092
                refine ⟨_, rfl, ?_⟩
                refine W_conv 9 (.slice p7021 r7019.1.length c7022) (.slice p7021 r7087.2.length c7022) (by kernel_rfl) (by first | rw [hl7090] | rw [hl7090]) ?_
                refine W_conv 68 (.slice p7021 r7019.1.length c7022) (.slice p7021 r7087.2.length c7022) (by kernel_rfl) (by first | rw [hl7090] | rw [hl7090]) ?_
                refine W_run 1 [(0, .slice p6778 x6776.length c6779), (3, .pointer (some ⟨b6783, 0, none⟩)), (6, .slice p6877 r6875.1.length c6878), (7, .bool r6875.2), (9, .slice p7021 r7087.2.length c7022), (12, .int .i64 r7087.1)] w7091 (by kernel_rfl) ?_
                refine W_nil ?_
                refine N_then ?_
                refine G_seq ?_
                refine G_region ?_
                refine W_run 1 [(0, .slice p6778 x6776.length c6779), (3, .pointer (some ⟨b6783, 0, none⟩)), (6, .slice p6877 r6875.1.length c6878), (7, .bool r6875.2), (9, .slice p7021 r7087.2.length c7022), (12, .int .i64 r7087.1), (13, .int .i64 1)] w7091 (by kernel_rfl) ?_
                refine W_nil ?_
                refine N_then ?_
                refine G_seq ?_
                refine G_region ?_
                refine W_run 2 [(0, .slice p6778 x6776.length c6779), (3, .pointer (some ⟨b6783, 0, none⟩)), (6, .slice p6877 r6875.1.length c6878), (7, .bool r6875.2), (9, .slice p7021 r7087.2.length c7022), (12, .int .i64 r7087.1), (13, .int .i64 1), (71, .slice p7021 r7087.2.length c7022), (72, .int .i64 1)] w7091 (by kernel_rfl) ?_
                obtain ⟨r7142, hr7142, hm⟩ := gx_bind hm
                refine W_call 37 #[.slice p7021 r7087.2.length c7022, .int .i64 1] (by kernel_rfl) (by kernel_rfl) ?_
                refine (c_l_heldRegionS w7091 r7087.2 p7021 c7022 (ho7089.rd M7093 2 (by kernel_rfl)) 1 hr7142).mono ?_
                rintro e_ w7143 ⟨rfl, K7144⟩
                have M7145 := M7093.call0 K7144
                refine ⟨_, rfl, ?_⟩
                refine W_run 1 [(0, .slice p6778 x6776.length c6779), (3, .pointer (some ⟨b6783, 0, none⟩)), (6, .slice p6877 r6875.1.length c6878), (7, .bool r6875.2), (9, .slice p7021 r7087.2.length c7022), (12, .int .i64 r7087.1), (13, .int .i64 r7142)] w7143 (by kernel_rfl) ?_
                refine W_nil ?_
                refine N_then ?_
                refine G_seq ?_
                refine G_seq ?_
                refine G_region ?_
                refine W_run 2 [(0, .slice p6778 x6776.length c6779), (3, .pointer (some ⟨b6783, 0, none⟩)), (6, .slice p6877 r6875.1.length c6878), (7, .bool r6875.2), (9, .slice p7021 r7087.2.length c7022), (12, .int .i64 r7087.1), (13, .int .i64 r7142), (75, .bool (decide (r7142 < 0)))] w7143 (by kernel_rfl) ?_
                refine W_nil ?_
                refine N_then ?_
                rcases gx_bif hm with ⟨hc7146, hm⟩ | ⟨hc7146, hm⟩
                · refine G_cond_t (b := (decide (r7142 < 0))) hc7146 (by kernel_rfl) ?_
                  refine G_seq ?_
                  refine G_region ?_
                  refine W_run 1 [(4, .bool false)] w7143 (by kernel_rfl) ?_
                  refine W_nil ?_
                  refine N_then ?_
                  refine G_ret ?_
                  refine N_then_ret ?_
                  obtain rfl := Option.some.inj hm
                  refine N_ret [.bool false] (RVs_cons (RV_tmp (by kernel_rfl)) RVs_nil) ?_
                  exact ⟨rfl, M7145.pick [] (by kernel_rfl)⟩
                · refine G_cond_f (b := (decide (r7142 < 0))) hc7146 (by kernel_rfl) ?_
                  refine G_skip ?_
                  refine N_then ?_
                  refine G_seq ?_
                  refine G_seq ?_
                  refine G_region ?_
                  refine W_run 3 [(0, .slice p6778 x6776.length c6779), (3, .pointer (some ⟨b6783, 0, none⟩)), (6, .slice p6877 r6875.1.length c6878), (7, .bool r6875.2), (9, .slice p7021 r7087.2.length c7022), (12, .int .i64 r7087.1), (78, .bool (r7142 != r7087.1))] w7143 (by kernel_rfl) ?_
                  refine W_nil ?_
                  refine N_then ?_
                  rcases gx_bif hm with ⟨hc7147, hm⟩ | ⟨hc7147, hm⟩
                  · refine G_cond_t (b := (r7142 != r7087.1)) hc7147 (by kernel_rfl) ?_
                    refine G_seq ?_
                    refine G_region ?_
                    refine W_run 1 [(4, .bool false)] w7143 (by kernel_rfl) ?_
                    refine W_nil ?_
                    refine N_then ?_
                    refine G_ret ?_
                    refine N_then_ret ?_
                    obtain rfl := Option.some.inj hm
                    refine N_ret [.bool false] (RVs_cons (RV_tmp (by kernel_rfl)) RVs_nil) ?_
                    exact ⟨rfl, M7145.pick [] (by kernel_rfl)⟩
                  · refine G_cond_f (b := (r7142 != r7087.1)) hc7147 (by kernel_rfl) ?_
                    refine G_skip ?_
                    refine N_then ?_
                    refine G_seq ?_
                    obtain ⟨r7150, hr7150, hm⟩ := gx_bind hm
                    obtain ⟨r7156, hr7156, hm⟩ := gx_bind hm
                    obtain ⟨r7157, hr7157, hm⟩ := gx_bind hm
                    refine G_sub [(0, .slice p6778 x6776.length c6779), (3, .pointer (some ⟨b6783, 0, none⟩)), (6, .slice p6877 r6875.1.length c6878), (7, .bool r6875.2), (9, .slice p7021 r7087.2.length c7022), (12, .int .i64 r7087.1), (78, .bool (r7142 != r7087.1))] (by kernel_rfl) ?_
                    refine G_dagL 9 [[], [0], [], [2], [1, 3], [], [5], [5], [6]] [[], [], [], [], [], [], [], [], []] [[], [], [], [], [1], [], [], [], []] [[], [], [], [], [], [4], [4], [4], [4]] [[], [], [], [], [], [4], [4], [], [4]] [[], [], [], [], [], [], [], [], []] (fun _ => []) (fun i => ([fun f v s => v = (.slice p6778 x6776.length c6779 : Value) ∧ s = [], fun f v s => ∃ (p7152 : Option Addr) (c7153 : Nat), v = (.slice p7152 r7150.length c7153 : Value) ∧ ownS encRegion r7150 p7152 c7153 s, fun f v s => v = (.agg #[.int .i64 x6781.Base, .int .i64 x6781.Size, .int .i64 x6781.Kind, .int .i64 x6781.Unit] : Value) ∧ s = [], fun f v s => v = (.agg #[.int .i64 r7156.Base, .int .i64 r7156.Size, .int .i64 r7156.Kind, .int .i64 r7156.Unit] : Value) ∧ s = [], fun f v s => ∃ (p7159 : Option Addr) (c7160 : Nat), v = (.tuple #[.slice p7159 r7157.1.length c7160, .bool r7157.2] : Value) ∧ ownS encRegion r7157.1 p7159 c7160 s, fun f v s => v = (.tuple #[(atPath (f 4) [0]), .bool r7157.2] : Value) ∧ s = [], fun f v s => v = ((atPath (f 4) [0]) : Value) ∧ s = [], fun f v s => v = (.bool r7157.2 : Value) ∧ s = [], fun f v s => v = ((atPath (f 4) [0]) : Value) ∧ s = []] : List ((Nat → Value) → Value → Seg → Prop)).getD i (fun _ _ _ => False)) (fun j f v => ∃ s, (fun i => ([fun f v s => v = (.slice p6778 x6776.length c6779 : Value) ∧ s = [], fun f v s => ∃ (p7152 : Option Addr) (c7153 : Nat), v = (.slice p7152 r7150.length c7153 : Value) ∧ ownS encRegion r7150 p7152 c7153 s, fun f v s => v = (.agg #[.int .i64 x6781.Base, .int .i64 x6781.Size, .int .i64 x6781.Kind, .int .i64 x6781.Unit] : Value) ∧ s = [], fun f v s => v = (.agg #[.int .i64 r7156.Base, .int .i64 r7156.Size, .int .i64 r7156.Kind, .int .i64 r7156.Unit] : Value) ∧ s = [], fun f v s => ∃ (p7159 : Option Addr) (c7160 : Nat), v = (.tuple #[.slice p7159 r7157.1.length c7160, .bool r7157.2] : Value) ∧ ownS encRegion r7157.1 p7159 c7160 s, fun f v s => v = (.tuple #[(atPath (f 4) [0]), .bool r7157.2] : Value) ∧ s = [], fun f v s => v = ((atPath (f 4) [0]) : Value) ∧ s = [], fun f v s => v = (.bool r7157.2 : Value) ∧ s = [], fun f v s => v = ((atPath (f 4) [0]) : Value) ∧ s = []] : List ((Nat → Value) → Value → Seg → Prop)).getD i (fun _ _ _ => False)) j f v s) [] [1, 4, 7, 8] [1, 4] (fun _ _ _ s h => ⟨s, h⟩) (by kernel_rfl) (by kernel_rfl) (M7145.preNil 9) (by kernel_rfl) (by kernel_rfl) (by kernel_rfl) (by kernel_rfl) (allOb_cons ?_ (allOb_cons ?_ (allOb_cons ?_ (allOb_cons ?_ (allOb_cons ?_ (allOb_cons ?_ (allOb_cons ?_ (allOb_cons ?_ (allOb_cons ?_ allOb_nil))))))))) ?_
                    · intro g7148 f7149
                      intro R w7163 M7164
                      refine W_run 1 [(80, .slice p6778 x6776.length c6779)] w7163 (by kernel_rfl) ?_
                      exact W_nil (ob_end (.slice p6778 x6776.length c6779) [] rfl (by kernel_rfl) ⟨by kernel_rfl, rfl⟩ M7164)
                    · intro g7148 f7149
                      intro v0_ hb0_
                      obtain ⟨rfl, _⟩ := hb0_
                      intro R w7167 M7168
                      refine W_call 17 #[.slice p6778 x6776.length c6779] (by kernel_rfl) (by kernel_rfl) ?_
                      refine (c_l_toRegionS w7167 x6776 p6778 c6779 (h6780.mem0 M7168) hr7150).mono ?_
                      rintro e_ w7169 ⟨p7152, c7153, sg7154, rfl, ho7155, K7171⟩
                      refine ⟨_, rfl, ?_⟩
                      exact W_nil (ob_end (.slice p7152 r7150.length c7153) sg7154 rfl (by kernel_rfl) ⟨p7152, c7153, rfl, ho7155⟩ (Mem.callMid M7168 K7171))
                    · intro g7148 f7149
                      intro R w7172 M7173
                      refine W_val (.agg #[.int .i64 x6781.Base, .int .i64 x6781.Size, .int .i64 x6781.Kind, .int .i64 x6781.Unit]) w7172 (by kernel_rfl) (E_load (e := 56) (fr := (0, 0)) _ _ true 4 b6783 0 [.int .i64 x6781.Base, .int .i64 x6781.Size, .int .i64 x6781.Kind, .int .i64 x6781.Unit] (.agg #[.int .i64 x6781.Base, .int .i64 x6781.Size, .int .i64 x6781.Kind, .int .i64 x6781.Unit]) rfl (by kernel_rfl) (by kernel_rfl) (by kernel_rfl) (M7173.blk 0 (b := b6783) (o := .cells ⟨[.int .i64 x6781.Base, .int .i64 x6781.Size, .int .i64 x6781.Kind, .int .i64 x6781.Unit]⟩ 56 (0, 0)) (by kernel_rfl))) ?_
                      exact W_nil (ob_end (.agg #[.int .i64 x6781.Base, .int .i64 x6781.Size, .int .i64 x6781.Kind, .int .i64 x6781.Unit]) [] rfl (by kernel_rfl) ⟨by kernel_rfl, rfl⟩ M7173)
                    · intro g7148 f7149
                      intro v2_ hb2_
                      obtain ⟨rfl, _⟩ := hb2_
                      intro R w7176 M7177
                      refine W_call 35 #[.agg #[.int .i64 x6781.Base, .int .i64 x6781.Size, .int .i64 x6781.Kind, .int .i64 x6781.Unit]] (by kernel_rfl) (by kernel_rfl) ?_
                      refine (c_l_toRegion w7176 x6781 hr7156).mono ?_
                      rintro e_ w7178 ⟨rfl, K7180⟩
                      refine ⟨_, rfl, ?_⟩
                      exact W_nil (ob_end (.agg #[.int .i64 r7156.Base, .int .i64 r7156.Size, .int .i64 r7156.Kind, .int .i64 r7156.Unit]) [] rfl (by kernel_rfl) ⟨rfl, rfl⟩ (M7177.call0 K7180))
                    · intro g7148 f7149
                      intro v1_ hb1_
                      obtain ⟨p7152, c7153, rfl, ho7155⟩ := hb1_
                      intro v3_ hb3_
                      obtain ⟨rfl, _⟩ := hb3_
                      intro R w7181 M7182
                      refine W_call 36 #[.slice p7152 r7150.length c7153, .agg #[.int .i64 r7156.Base, .int .i64 r7156.Size, .int .i64 r7156.Kind, .int .i64 r7156.Unit]] (by kernel_rfl) (by kernel_rfl) ?_
                      refine (c_i_AddRegion w7181 r7150 p7152 c7153 (ho7155.rd M7182 4 (by kernel_rfl)) r7156 hr7157).mono ?_
                      rintro e_ w7183 ⟨p7159, c7160, sg7161, rfl, ho7162, K7185⟩
                      refine ⟨_, rfl, ?_⟩
                      exact W_nil (ob_end (.tuple #[.slice p7159 r7157.1.length c7160, .bool r7157.2]) sg7161 rfl (by kernel_rfl) ⟨p7159, c7160, rfl, ho7162⟩ (Mem.callMid M7182 K7185))
                    · intro g7148 f7149
                      intro v4_ hb4_
                      obtain ⟨_, p7159, c7160, rfl, _⟩ := hb4_
                      intro R w7186 M7187
                      refine W_run 1 [(79, .tuple #[.slice p7159 r7157.1.length c7160, .bool r7157.2])] w7186 (by kernel_rfl) ?_
                      exact W_nil (ob_end (.tuple #[.slice p7159 r7157.1.length c7160, .bool r7157.2]) [] rfl (by kernel_rfl) ⟨by kernel_rfl, rfl⟩ M7187)
                    · intro g7148 f7149
                      intro v4_ hb4_
                      obtain ⟨_, p7159, c7160, rfl, _⟩ := hb4_
                      intro v5_ hb5_
                      obtain ⟨hv5_, _⟩ := hb5_
                      obtain rfl : v5_ = (.tuple #[.slice p7159 r7157.1.length c7160, .bool r7157.2] : Value) := hv5_.trans (by kernel_rfl)
                      intro R w7190 M7191
                      refine W_run 1 [(85, .slice p7159 r7157.1.length c7160)] w7190 (by kernel_rfl) ?_
                      exact W_nil (ob_end (.slice p7159 r7157.1.length c7160) [] rfl (by kernel_rfl) ⟨by kernel_rfl, rfl⟩ M7191)
                    · intro g7148 f7149
                      intro v4_ hb4_
                      obtain ⟨_, p7159, c7160, rfl, _⟩ := hb4_
                      intro v5_ hb5_
                      obtain ⟨hv5_, _⟩ := hb5_
                      obtain rfl : v5_ = (.tuple #[.slice p7159 r7157.1.length c7160, .bool r7157.2] : Value) := hv5_.trans (by kernel_rfl)
                      intro R w7194 M7195
                      refine W_run 1 [(86, .bool r7157.2)] w7194 (by kernel_rfl) ?_
                      exact W_nil (ob_end (.bool r7157.2) [] rfl (by kernel_rfl) ⟨by kernel_rfl, rfl⟩ M7195)
                    · intro g7148 f7149
                      intro v4_ hb4_
                      obtain ⟨_, p7159, c7160, rfl, _⟩ := hb4_
                      intro v6_ hb6_
                      obtain ⟨hv6_, _⟩ := hb6_
                      obtain rfl : v6_ = (.slice p7159 r7157.1.length c7160 : Value) := hv6_.trans (by kernel_rfl)
                      intro R w7198 M7199
                      refine W_run 1 [(14, .slice p7159 r7157.1.length c7160)] w7198 (by kernel_rfl) ?_
                      exact W_nil (ob_end (.slice p7159 r7157.1.length c7160) [] rfl (by kernel_rfl) ⟨by kernel_rfl, rfl⟩ M7199)
                    · intro g7148 f7149
                      intro v1_ hb1_
                      obtain ⟨p7152, c7153, rfl, ho7155⟩ := hb1_
                      intro v4_ hb4_
                      obtain ⟨p7159, c7160, rfl, ho7162⟩ := hb4_
                      intro v7_ hb7_
                      obtain ⟨rfl, _⟩ := hb7_
                      intro v8_ hb8_
                      obtain ⟨hv8_, _⟩ := hb8_
                      obtain rfl : v8_ = (.slice p7159 r7157.1.length c7160 : Value) := hv8_.trans (by kernel_rfl)
                      intro w7202 M7203
                      have M7204 : Mem [] w w7202 [[(b6783, .cells ⟨[.int .i64 x6781.Base, .int .i64 x6781.Size, .int .i64 x6781.Kind, .int .i64 x6781.Unit]⟩ 56 (0, 0))], (g6791 4), sg7088, (g7148 1), (g7148 4)] := M7203
                      refine W_run 1 [(6, .slice p6877 r6875.1.length c6878), (7, .bool r6875.2), (9, .slice p7021 r7087.2.length c7022), (12, .int .i64 r7087.1), (14, .slice p7159 r7157.1.length c7160), (15, .bool r7157.2)] w7202 (by kernel_rfl) ?_
                      refine W_nil ?_
                      refine N_then ?_
                      refine G_seq ?_
                      refine G_seq ?_
                      obtain ⟨o7210, ho7211, hm7212⟩ := gx_bind hm
                      refine G_meet (fun a w' => Mem [] w w' [sg7088] ∧ Sat Try.f8.ntmps [(9, .slice p7021 r7087.2.length c7022), (12, .int .i64 r7087.1), (95, .bool o7210)] a) ?_ ?_
                      · have hm := ho7211
                        refine G_region ?_
                        refine W_run 2 [(7, .bool r6875.2), (9, .slice p7021 r7087.2.length c7022), (12, .int .i64 r7087.1), (15, .bool r7157.2), (87, .slice p7159 r7157.1.length c7160), (88, .slice p6877 r6875.1.length c6878)] w7202 (by kernel_rfl) ?_
                        obtain ⟨r7213, hr7213, hm⟩ := gx_bind hm
                        refine W_call 20 #[.slice p7159 r7157.1.length c7160, .slice p6877 r6875.1.length c6878] (by kernel_rfl) (by kernel_rfl) ?_
                        refine (c_l_eqRegionS w7202 r7157.1 p7159 c7160 (ho7162.rd M7204 4 (by kernel_rfl)) r6875.1 p6877 c6878 (ho6880.rd M7204 1 (by kernel_rfl)) hr7213).mono ?_
                        rintro e_ w7214 ⟨rfl, K7215⟩
                        have M7216 := M7204.call0 K7215
                        refine ⟨_, rfl, ?_⟩
                        refine W_run 2 [(7, .bool r6875.2), (9, .slice p7021 r7087.2.length c7022), (12, .int .i64 r7087.1), (15, .bool r7157.2), (91, .bool (!r7213))] w7214 (by kernel_rfl) ?_
                        rcases gx_bif hm with ⟨hc7217, hm⟩ | ⟨hc7217, hm⟩
                        · refine W_known 91 true (by kernel_rfl) hc7217 ?_
                          refine W_run 4 [(9, .slice p7021 r7087.2.length c7022), (12, .int .i64 r7087.1), (95, .bool true)] w7214 (by kernel_rfl) ?_
                          refine W_nil ?_
                          obtain rfl := Option.some.inj hm
                          exact N_meet fun a ha => ⟨M7216.pick [2] (by kernel_rfl), ha.sub (by kernel_rfl)⟩
                        · refine W_known 91 false (by kernel_rfl) hc7217 ?_
                          refine W_run 4 [(9, .slice p7021 r7087.2.length c7022), (12, .int .i64 r7087.1), (95, .bool (!(r7157.2 == r6875.2)))] w7214 (by kernel_rfl) ?_
                          refine W_nil ?_
                          obtain rfl := Option.some.inj hm
                          exact N_meet fun a ha => ⟨M7216.pick [2] (by kernel_rfl), ha.sub (by kernel_rfl)⟩
                      · intro a7220 w7218 ⟨M7219, hS7221⟩
                        refine N_use hS7221 ?_
                        have hm := hm7212
                        refine N_then ?_
                        rcases gx_bif hm with ⟨hc7222, hm⟩ | ⟨hc7222, hm⟩
                        · refine G_cond_t (b := o7210) hc7222 (by kernel_rfl) ?_
                          refine G_seq ?_
                          refine G_region ?_
                          refine W_run 1 [(4, .bool false)] w7218 (by kernel_rfl) ?_
                          refine W_nil ?_
                          refine N_then ?_
                          refine G_ret ?_
                          refine N_then_ret ?_
                          obtain rfl := Option.some.inj hm
                          refine N_ret [.bool false] (RVs_cons (RV_tmp (by kernel_rfl)) RVs_nil) ?_
                          exact ⟨rfl, M7219.pick [] (by kernel_rfl)⟩
                        · refine G_cond_f (b := o7210) hc7222 (by kernel_rfl) ?_
                          refine G_skip ?_
                          refine N_then ?_
                          refine G_seq ?_
                          refine G_region ?_
                          refine W_run 1 [(9, .slice p7021 r7087.2.length c7022), (12, .int .i64 r7087.1), (13, .int .i64 1)] w7218 (by kernel_rfl) ?_
                          refine W_nil ?_
                          refine N_then ?_
                          refine G_seq ?_
                          refine G_region ?_
                          refine W_run 2 [(12, .int .i64 r7087.1), (13, .int .i64 1), (96, .slice p7021 r7087.2.length c7022), (97, .int .i64 1)] w7218 (by kernel_rfl) ?_
                          obtain ⟨r7223, hr7223, hm⟩ := gx_bind hm
                          refine W_call 37 #[.slice p7021 r7087.2.length c7022, .int .i64 1] (by kernel_rfl) (by kernel_rfl) ?_
                          refine (c_l_heldRegionS w7218 r7087.2 p7021 c7022 (ho7089.rd M7219 0 (by kernel_rfl)) 1 hr7223).mono ?_
                          rintro e_ w7224 ⟨rfl, K7225⟩
                          have M7226 := M7219.call0 K7225
                          refine ⟨_, rfl, ?_⟩
                          refine W_run 1 [(12, .int .i64 r7087.1), (13, .int .i64 r7223)] w7224 (by kernel_rfl) ?_
                          refine W_nil ?_
                          refine N_then ?_
                          refine G_seq ?_
                          refine G_seq ?_
                          refine G_region ?_
                          refine W_run 2 [(12, .int .i64 r7087.1), (13, .int .i64 r7223), (100, .bool (decide (r7223 < 0)))] w7224 (by kernel_rfl) ?_
                          refine W_nil ?_
                          refine N_then ?_
                          rcases gx_bif hm with ⟨hc7227, hm⟩ | ⟨hc7227, hm⟩
                          · refine G_cond_t (b := (decide (r7223 < 0))) hc7227 (by kernel_rfl) ?_
                            refine G_seq ?_
                            refine G_region ?_
                            refine W_run 1 [(4, .bool false)] w7224 (by kernel_rfl) ?_
                            refine W_nil ?_
                            refine N_then ?_
                            refine G_ret ?_
                            refine N_then_ret ?_
                            obtain rfl := Option.some.inj hm
                            refine N_ret [.bool false] (RVs_cons (RV_tmp (by kernel_rfl)) RVs_nil) ?_
                            exact ⟨rfl, M7226.pick [] (by kernel_rfl)⟩
                          · refine G_cond_f (b := (decide (r7223 < 0))) hc7227 (by kernel_rfl) ?_
                            refine G_skip ?_
                            refine N_then ?_
                            refine G_seq ?_
                            refine G_seq ?_
                            refine G_region ?_
                            refine W_run 3 [(103, .bool (r7223 != r7087.1))] w7224 (by kernel_rfl) ?_
                            refine W_nil ?_
                            refine N_then ?_
                            rcases gx_bif hm with ⟨hc7228, hm⟩ | ⟨hc7228, hm⟩
                            · refine G_cond_t (b := (r7223 != r7087.1)) hc7228 (by kernel_rfl) ?_
                              refine G_seq ?_
                              refine G_region ?_
                              refine W_run 1 [(4, .bool false)] w7224 (by kernel_rfl) ?_
                              refine W_nil ?_
                              refine N_then ?_
                              refine G_ret ?_
                              refine N_then_ret ?_
                              obtain rfl := Option.some.inj hm
                              refine N_ret [.bool false] (RVs_cons (RV_tmp (by kernel_rfl)) RVs_nil) ?_
                              exact ⟨rfl, M7226.pick [] (by kernel_rfl)⟩
                            · refine G_cond_f (b := (r7223 != r7087.1)) hc7228 (by kernel_rfl) ?_
                              refine G_skip ?_
                              refine N_then ?_
                              refine G_seq ?_
                              refine G_region ?_
                              refine W_run 1 [(4, .bool true)] w7224 (by kernel_rfl) ?_
                              refine W_nil ?_
                              refine N_then ?_
                              refine G_ret ?_
                              obtain rfl := Option.some.inj hm
                              refine N_ret [.bool true] (RVs_cons (RV_tmp (by kernel_rfl)) RVs_nil) ?_
                              exact ⟨rfl, M7226.pick [] (by kernel_rfl)⟩
end Go.Proofs.Ytphinfkojhecdaa
