/- The walks, printed by program: whenever the model gives r, the call returns r. Part 2. -/
import Derived.Test.YtjbblcdajdpfkaaRM
import Derived.Test.YtjbblcdajdpfkaaProg
import Derived.Test.YtjbblcdajdpfkaaRC1
set_option linter.unusedVariables false
set_option maxRecDepth 100000
set_option maxHeartbeats 4000000
namespace Go.Proofs.Ytjbblcdajdpfkaa
open Go.Gx
theorem c_i_isMemory (w : World) (x4067 : List Int) (p4069 : Option Addr) (c4070 : Nat) (h4071 : rdS encI w x4067 p4069 c4070) {r : Bool} (hm : M.i_isMemory x4067 = some r) :
    Calls Try.prog 58 #[.slice p4069 x4067.length c4070] w fun e w' => e = .returned (.bool r) ∧ Mem [] w w' [] := by
  unfold M.i_isMemory at hm
  refine C_enter Try.func58 rfl (by kernel_rfl) ?_
  have M0 := Mem.refl [] w
  refine G_seq ?_
  refine G_region ?_
  refine W_run 1 [(0, .slice p4069 x4067.length c4070)] w (by kernel_rfl) ?_
  refine W_nil ?_
  refine N_then ?_
  refine G_seq ?_
  obtain ⟨o4153, ho4154, hm4155⟩ := gx_bind hm
  refine G_meet (fun a w' => Mem [] w w' [] ∧ Sat Try.f58.ntmps [(2, .bool o4153)] a) ?_ ?_
  · have hm := ho4154
    refine G_region ?_
    refine W_run 2 [(0, .slice p4069 x4067.length c4070), (4, .int .i64 (x4067.length : Int))] w (by kernel_rfl) ?_
    obtain ⟨r4156, hr4156, hm⟩ := gx_bind hm
    refine W_call 74 #[.int .i64 (x4067.length : Int), .int .i64 1, .int .i64 12] (by kernel_rfl) (by kernel_rfl) ?_
    refine (c_i_inside w (x4067.length : Int) 1 12 hr4156).mono ?_
    rintro e_ w4157 ⟨rfl, K4158⟩
    have M4159 := M0.call0 K4158
    refine ⟨_, rfl, ?_⟩
    refine W_run 1 [(0, .slice p4069 x4067.length c4070), (6, .bool r4156)] w4157 (by kernel_rfl) ?_
    rcases gx_bif hm with ⟨hc4160, hm⟩ | ⟨hc4160, hm⟩
    · refine W_known 6 true (by kernel_rfl) hc4160 ?_
      refine W_run 1 [(6, .bool true), (7, .slice p4069 x4067.length c4070)] w4157 (by kernel_rfl) ?_
      obtain ⟨r4161, hr4161, hm⟩ := gx_bind hm
      refine W_call 92 #[.slice p4069 x4067.length c4070, .func (.func 93) #[] #[]] (by kernel_rfl) (by kernel_rfl) ?_
      refine (c_slices_ContainsFunc_92__i_isMemory_1 w4157 x4067 p4069 c4070 (h4071.mem0 M4159) hr4161).mono ?_
      rintro e_ w4162 ⟨rfl, K4163⟩
      have M4164 := M4159.call0 K4163
      refine ⟨_, rfl, ?_⟩
      refine W_run 3 [(2, .bool (!r4161))] w4162 (by kernel_rfl) ?_
      refine W_nil ?_
      obtain rfl := Option.some.inj hm
      exact N_meet fun a ha => ⟨M4164.pick [] (by kernel_rfl), ha.sub (by kernel_rfl)⟩
    · refine W_known 6 false (by kernel_rfl) hc4160 ?_
      refine W_run 5 [(2, .bool false)] w4157 (by kernel_rfl) ?_
      refine W_nil ?_
      obtain rfl := Option.some.inj hm
      exact N_meet fun a ha => ⟨M4159.pick [] (by kernel_rfl), ha.sub (by kernel_rfl)⟩
  · intro a4167 w4165 ⟨M4166, hS4168⟩
    refine N_use hS4168 ?_
    have hm := hm4155
    refine N_then ?_
    refine G_ret ?_
    obtain rfl := Option.some.inj hm
    refine N_ret [.bool o4153] (RVs_cons (RV_tmp (by kernel_rfl)) RVs_nil) ?_
    exact ⟨rfl, M4166.pick [] (by kernel_rfl)⟩
theorem c_i_IsCopying (w : World) (x4050 : Copying) (p4052 : Option Addr) (c4053 : Nat) (h4054 : rdS encI w x4050.Memory p4052 c4053) (p4056 : Option Addr) (c4057 : Nat) (h4058 : rdS encI w x4050.Copy p4056 c4057) (p4060 : Option Addr) (c4061 : Nat) (h4062 : rdS encB w x4050.Dirty p4060 c4061) {r : Bool} (hm : M.i_IsCopying x4050 = some r) :
    Calls Try.prog 16 #[.agg #[.slice p4052 x4050.Memory.length c4053, .slice p4056 x4050.Copy.length c4057, .slice p4060 x4050.Dirty.length c4061]] w fun e w' => e = .returned (.bool r) ∧ Mem [] w w' [] := by
  unfold M.i_IsCopying at hm
  refine C_enter Try.func16 rfl (by kernel_rfl) ?_
  have M0 := Mem.refl [] w
  refine G_seq ?_
  refine G_region ?_
  refine W_new (fun b => .pointer (some ⟨b, 0, none⟩)) (.cells ⟨[.slice p4052 x4050.Memory.length c4053, .slice p4056 x4050.Copy.length c4057, .slice p4060 x4050.Dirty.length c4061]⟩ 28 (0, 0)) M0 rfl (by kernel_rfl) (by kernel_rfl) ?_
  intro b4064 w4065 M4066
  refine W_run 1 [(1, .pointer (some ⟨b4064, 0, none⟩))] w4065 (by kernel_rfl) ?_
  refine W_nil ?_
  refine N_then ?_
  refine G_seq ?_
  refine G_seq ?_
  obtain ⟨o4180, ho4181, hm4182⟩ := gx_bind hm
  refine G_meet (fun a w' => Mem [] w w' [[(b4064, .cells ⟨[.slice p4052 x4050.Memory.length c4053, .slice p4056 x4050.Copy.length c4057, .slice p4060 x4050.Dirty.length c4061]⟩ 28 (0, 0))]] ∧ Sat Try.f16.ntmps [(1, .pointer (some ⟨b4064, 0, none⟩)), (32, .bool o4180)] a) ?_ ?_
  · have hm := ho4181
    refine G_region ?_
    refine W_run 1 [(1, .pointer (some ⟨b4064, 0, none⟩)), (5, .pointer (some ⟨b4064, 0, none⟩))] w4065 (by kernel_rfl) ?_
    refine W_val (.slice p4052 x4050.Memory.length c4053) w4065 (by kernel_rfl) (E_load (e := 28) (fr := (0, 0)) _ _ false 1 b4064 0 [.slice p4052 x4050.Memory.length c4053, .slice p4056 x4050.Copy.length c4057, .slice p4060 x4050.Dirty.length c4061] (.slice p4052 x4050.Memory.length c4053) rfl (by kernel_rfl) (by kernel_rfl) (by kernel_rfl) (M4066.blk 0 (b := b4064) (o := .cells ⟨[.slice p4052 x4050.Memory.length c4053, .slice p4056 x4050.Copy.length c4057, .slice p4060 x4050.Dirty.length c4061]⟩ 28 (0, 0)) (by kernel_rfl))) ?_
    obtain ⟨r4183, hr4183, hm⟩ := gx_bind hm
    refine W_call 58 #[.slice p4052 x4050.Memory.length c4053] (by kernel_rfl) (by kernel_rfl) ?_
    refine (c_i_isMemory w4065 x4050.Memory p4052 c4053 (h4054.mem0 M4066) hr4183).mono ?_
    rintro e_ w4184 ⟨rfl, K4185⟩
    have M4186 := M4066.call0 K4185
    refine ⟨_, rfl, ?_⟩
    refine W_run 2 [(1, .pointer (some ⟨b4064, 0, none⟩)), (9, .bool (!r4183))] w4184 (by kernel_rfl) ?_
    rcases gx_bif hm with ⟨hc4187, hm⟩ | ⟨hc4187, hm⟩
    · refine W_known 9 true (by kernel_rfl) hc4187 ?_
      refine W_run 23 [(1, .pointer (some ⟨b4064, 0, none⟩)), (32, .bool true)] w4184 (by kernel_rfl) ?_
      refine W_nil ?_
      obtain rfl := Option.some.inj hm
      exact N_meet fun a ha => ⟨M4186.pick [0] (by kernel_rfl), ha.sub (by kernel_rfl)⟩
    · refine W_known 9 false (by kernel_rfl) hc4187 ?_
      refine W_run 1 [(1, .pointer (some ⟨b4064, 0, none⟩)), (9, .bool false), (10, .pointer (some ⟨b4064, 1, none⟩))] w4184 (by kernel_rfl) ?_
      refine W_val (.slice p4056 x4050.Copy.length c4057) w4184 (by kernel_rfl) (E_load (e := 28) (fr := (0, 0)) _ _ false 1 b4064 1 [.slice p4052 x4050.Memory.length c4053, .slice p4056 x4050.Copy.length c4057, .slice p4060 x4050.Dirty.length c4061] (.slice p4056 x4050.Copy.length c4057) rfl (by kernel_rfl) (by kernel_rfl) (by kernel_rfl) (M4186.blk 0 (b := b4064) (o := .cells ⟨[.slice p4052 x4050.Memory.length c4053, .slice p4056 x4050.Copy.length c4057, .slice p4060 x4050.Dirty.length c4061]⟩ 28 (0, 0)) (by kernel_rfl))) ?_
      obtain ⟨r4188, hr4188, hm⟩ := gx_bind hm
      refine W_call 58 #[.slice p4056 x4050.Copy.length c4057] (by kernel_rfl) (by kernel_rfl) ?_
      refine (c_i_isMemory w4184 x4050.Copy p4056 c4057 (h4058.mem0 M4186) hr4188).mono ?_
      rintro e_ w4189 ⟨rfl, K4190⟩
      have M4191 := M4186.call0 K4190
      refine ⟨_, rfl, ?_⟩
      refine W_run 3 [(1, .pointer (some ⟨b4064, 0, none⟩)), (15, .bool (!r4188))] w4189 (by kernel_rfl) ?_
      rcases gx_bif hm with ⟨hc4192, hm⟩ | ⟨hc4192, hm⟩
      · refine W_known 15 true (by kernel_rfl) hc4192 ?_
        refine W_run 17 [(1, .pointer (some ⟨b4064, 0, none⟩)), (32, .bool true)] w4189 (by kernel_rfl) ?_
        refine W_nil ?_
        obtain rfl := Option.some.inj hm
        exact N_meet fun a ha => ⟨M4191.pick [0] (by kernel_rfl), ha.sub (by kernel_rfl)⟩
      · refine W_known 15 false (by kernel_rfl) hc4192 ?_
        refine W_run 1 [(1, .pointer (some ⟨b4064, 0, none⟩)), (15, .bool false), (16, .pointer (some ⟨b4064, 1, none⟩))] w4189 (by kernel_rfl) ?_
        refine W_val (.slice p4056 x4050.Copy.length c4057) w4189 (by kernel_rfl) (E_load (e := 28) (fr := (0, 0)) _ _ false 1 b4064 1 [.slice p4052 x4050.Memory.length c4053, .slice p4056 x4050.Copy.length c4057, .slice p4060 x4050.Dirty.length c4061] (.slice p4056 x4050.Copy.length c4057) rfl (by kernel_rfl) (by kernel_rfl) (by kernel_rfl) (M4191.blk 0 (b := b4064) (o := .cells ⟨[.slice p4052 x4050.Memory.length c4053, .slice p4056 x4050.Copy.length c4057, .slice p4060 x4050.Dirty.length c4061]⟩ 28 (0, 0)) (by kernel_rfl))) ?_
        refine W_run 2 [(1, .pointer (some ⟨b4064, 0, none⟩)), (15, .bool false), (18, .int .i64 (x4050.Copy.length : Int)), (19, .pointer (some ⟨b4064, 0, none⟩))] w4189 (by kernel_rfl) ?_
        refine W_val (.slice p4052 x4050.Memory.length c4053) w4189 (by kernel_rfl) (E_load (e := 28) (fr := (0, 0)) _ _ false 1 b4064 0 [.slice p4052 x4050.Memory.length c4053, .slice p4056 x4050.Copy.length c4057, .slice p4060 x4050.Dirty.length c4061] (.slice p4052 x4050.Memory.length c4053) rfl (by kernel_rfl) (by kernel_rfl) (by kernel_rfl) (M4191.blk 0 (b := b4064) (o := .cells ⟨[.slice p4052 x4050.Memory.length c4053, .slice p4056 x4050.Copy.length c4057, .slice p4060 x4050.Dirty.length c4061]⟩ 28 (0, 0)) (by kernel_rfl))) ?_
        refine W_run 4 [(1, .pointer (some ⟨b4064, 0, none⟩)), (24, .bool ((x4050.Copy.length : Int) != (x4050.Memory.length : Int)))] w4189 (by kernel_rfl) ?_
        rcases gx_bif hm with ⟨hc4193, hm⟩ | ⟨hc4193, hm⟩
        · refine W_known 24 true (by kernel_rfl) hc4193 ?_
          refine W_run 8 [(1, .pointer (some ⟨b4064, 0, none⟩)), (32, .bool true)] w4189 (by kernel_rfl) ?_
          refine W_nil ?_
          obtain rfl := Option.some.inj hm
          exact N_meet fun a ha => ⟨M4191.pick [0] (by kernel_rfl), ha.sub (by kernel_rfl)⟩
        · refine W_known 24 false (by kernel_rfl) hc4193 ?_
          refine W_run 1 [(1, .pointer (some ⟨b4064, 0, none⟩)), (24, .bool false), (25, .pointer (some ⟨b4064, 2, none⟩))] w4189 (by kernel_rfl) ?_
          refine W_val (.slice p4060 x4050.Dirty.length c4061) w4189 (by kernel_rfl) (E_load (e := 28) (fr := (0, 0)) _ _ false 1 b4064 2 [.slice p4052 x4050.Memory.length c4053, .slice p4056 x4050.Copy.length c4057, .slice p4060 x4050.Dirty.length c4061] (.slice p4060 x4050.Dirty.length c4061) rfl (by kernel_rfl) (by kernel_rfl) (by kernel_rfl) (M4191.blk 0 (b := b4064) (o := .cells ⟨[.slice p4052 x4050.Memory.length c4053, .slice p4056 x4050.Copy.length c4057, .slice p4060 x4050.Dirty.length c4061]⟩ 28 (0, 0)) (by kernel_rfl))) ?_
          refine W_run 2 [(1, .pointer (some ⟨b4064, 0, none⟩)), (24, .bool false), (27, .int .i64 (x4050.Dirty.length : Int)), (28, .pointer (some ⟨b4064, 0, none⟩))] w4189 (by kernel_rfl) ?_
          refine W_val (.slice p4052 x4050.Memory.length c4053) w4189 (by kernel_rfl) (E_load (e := 28) (fr := (0, 0)) _ _ false 1 b4064 0 [.slice p4052 x4050.Memory.length c4053, .slice p4056 x4050.Copy.length c4057, .slice p4060 x4050.Dirty.length c4061] (.slice p4052 x4050.Memory.length c4053) rfl (by kernel_rfl) (by kernel_rfl) (by kernel_rfl) (M4191.blk 0 (b := b4064) (o := .cells ⟨[.slice p4052 x4050.Memory.length c4053, .slice p4056 x4050.Copy.length c4057, .slice p4060 x4050.Dirty.length c4061]⟩ 28 (0, 0)) (by kernel_rfl))) ?_
          refine W_run 3 [(1, .pointer (some ⟨b4064, 0, none⟩)), (32, .bool ((x4050.Dirty.length : Int) != (x4050.Memory.length : Int)))] w4189 (by kernel_rfl) ?_
          refine W_nil ?_
          obtain rfl := Option.some.inj hm
          exact N_meet fun a ha => ⟨M4191.pick [0] (by kernel_rfl), ha.sub (by kernel_rfl)⟩
  · intro a4196 w4194 ⟨M4195, hS4197⟩
    refine N_use hS4197 ?_
    have hm := hm4182
    refine N_then ?_
    rcases gx_bif hm with ⟨hc4198, hm⟩ | ⟨hc4198, hm⟩
    · refine G_cond_t (b := o4180) hc4198 (by kernel_rfl) ?_
      refine G_seq ?_
      refine G_region ?_
      refine W_run 1 [(2, .bool false)] w4194 (by kernel_rfl) ?_
      refine W_nil ?_
      refine N_then ?_
      refine G_ret ?_
      refine N_then_ret ?_
      obtain rfl := Option.some.inj hm
      refine N_ret [.bool false] (RVs_cons (RV_tmp (by kernel_rfl)) RVs_nil) ?_
      exact ⟨rfl, M4195.pick [] (by kernel_rfl)⟩
    · refine G_cond_f (b := o4180) hc4198 (by kernel_rfl) ?_
      refine G_skip ?_
      refine N_then ?_
      refine G_seq ?_
      refine G_seq ?_
      refine G_region ?_
      refine W_run 1 [(1, .pointer (some ⟨b4064, 0, none⟩)), (33, .pointer (some ⟨b4064, 0, none⟩))] w4194 (by kernel_rfl) ?_
      refine W_val (.slice p4052 x4050.Memory.length c4053) w4194 (by kernel_rfl) (E_load (e := 28) (fr := (0, 0)) _ _ false 1 b4064 0 [.slice p4052 x4050.Memory.length c4053, .slice p4056 x4050.Copy.length c4057, .slice p4060 x4050.Dirty.length c4061] (.slice p4052 x4050.Memory.length c4053) rfl (by kernel_rfl) (by kernel_rfl) (by kernel_rfl) (M4195.blk 0 (b := b4064) (o := .cells ⟨[.slice p4052 x4050.Memory.length c4053, .slice p4056 x4050.Copy.length c4057, .slice p4060 x4050.Dirty.length c4061]⟩ 28 (0, 0)) (by kernel_rfl))) ?_
      refine W_run 2 [(1, .pointer (some ⟨b4064, 0, none⟩)), (34, .slice p4052 x4050.Memory.length c4053), (35, .int .i64 (x4050.Memory.length : Int)), (36, .int .i64 0)] w4194 (by kernel_rfl) ?_
      refine W_nil ?_
      refine N_then ?_
      obtain ⟨out4238, hw4239, hmo4240⟩ := gx_bind hm
      refine G_meet (fun a w' => ∃ (o4241 : Unit), out4238 = .inl o4241 ∧ Mem [] w w' [] ∧ Sat Try.f16.ntmps [] a) ?_ ?_
      · refine G_block ?_
        refine G_while (σ := Int) (ρ := (Unit) ⊕ (Bool)) (fun s4231 a w' => Mem [] w w' [[(b4064, .cells ⟨[.slice p4052 x4050.Memory.length c4053, .slice p4056 x4050.Copy.length c4057, .slice p4060 x4050.Dirty.length c4061]⟩ 28 (0, 0))]] ∧ Sat Try.f16.ntmps [(1, .pointer (some ⟨b4064, 0, none⟩)), (34, .slice p4052 x4050.Memory.length c4053), (35, .int .i64 (x4050.Memory.length : Int)), (36, .int .i64 s4231)] a) hw4239 (fun a ha => ⟨M4195.pick [0] (by kernel_rfl), ha.sub (by kernel_rfl)⟩) ?_
        clear hm
        intro s4231 x4232 hm hout4233 a4234 w4235 ⟨M4236, hS4237⟩
        refine G_use hS4237 ?_
        refine G_seq ?_
        refine G_region ?_
        refine W_run 1 [(1, .pointer (some ⟨b4064, 0, none⟩)), (34, .slice p4052 x4050.Memory.length c4053), (35, .int .i64 (x4050.Memory.length : Int)), (36, .int .i64 s4231), (37, .bool (decide (s4231 < (x4050.Memory.length : Int))))] w4235 (by kernel_rfl) ?_
        refine W_nil ?_
        refine N_then ?_
        refine G_seq ?_
        rcases gx_bif hm with ⟨hc4242, hm⟩ | ⟨hc4242, hm⟩
        · refine G_cond_t (b := (decide (s4231 < (x4050.Memory.length : Int)))) hc4242 (by kernel_rfl) ?_
          refine G_skip ?_
          refine N_then ?_
          refine G_seq ?_
          refine G_block ?_
          refine G_seq ?_
          refine G_region ?_
          refine W_run 1 [(1, .pointer (some ⟨b4064, 0, none⟩)), (34, .slice p4052 x4050.Memory.length c4053), (35, .int .i64 (x4050.Memory.length : Int)), (36, .int .i64 s4231), (38, .int .i64 s4231)] w4235 (by kernel_rfl) ?_
          obtain ⟨y4243, hy4243, hm⟩ := gx_bind hm
          refine W_val (elemP p4052 (s4231.toNat * 1)) w4235 (by kernel_rfl) (E_index (E := encI) _ _ _ x4050.Memory.length c4053 .i64 s4231 1 (y := y4243) rfl (by kernel_rfl) (by kernel_rfl) (by kernel_rfl) (h4054.mem0 M4236) rfl hy4243) ?_
          refine W_val (.int .i64 y4243) w4235 (by kernel_rfl) (E_loadE (E := encI) _ _ false 1 s4231 0 (s4231.toNat * 1) y4243 (.int .i64 y4243) rfl (by kernel_rfl) (by kernel_rfl) (by kernel_rfl) (h4054.mem0 M4236) hy4243 rfl) ?_
          refine W_run 2 [(1, .pointer (some ⟨b4064, 0, none⟩)), (3, .int .i64 s4231), (4, .int .i64 y4243), (34, .slice p4052 x4050.Memory.length c4053), (35, .int .i64 (x4050.Memory.length : Int)), (36, .int .i64 s4231)] w4235 (by kernel_rfl) ?_
          refine W_nil ?_
          refine N_then ?_
          refine G_seq ?_
          obtain ⟨o4247, ho4248, hm4249⟩ := gx_bind hm
          refine G_meet (fun a w' => Mem [] w w' [[(b4064, .cells ⟨[.slice p4052 x4050.Memory.length c4053, .slice p4056 x4050.Copy.length c4057, .slice p4060 x4050.Dirty.length c4061]⟩ 28 (0, 0))]] ∧ Sat Try.f16.ntmps [(1, .pointer (some ⟨b4064, 0, none⟩)), (34, .slice p4052 x4050.Memory.length c4053), (35, .int .i64 (x4050.Memory.length : Int)), (36, .int .i64 s4231), (55, .bool o4247)] a) ?_ ?_
          · have hm := ho4248
            refine G_region ?_
            refine W_run 1 [(1, .pointer (some ⟨b4064, 0, none⟩)), (3, .int .i64 s4231), (4, .int .i64 y4243), (34, .slice p4052 x4050.Memory.length c4053), (35, .int .i64 (x4050.Memory.length : Int)), (36, .int .i64 s4231), (41, .pointer (some ⟨b4064, 1, none⟩))] w4235 (by kernel_rfl) ?_
            refine W_val (.slice p4056 x4050.Copy.length c4057) w4235 (by kernel_rfl) (E_load (e := 28) (fr := (0, 0)) _ _ false 1 b4064 1 [.slice p4052 x4050.Memory.length c4053, .slice p4056 x4050.Copy.length c4057, .slice p4060 x4050.Dirty.length c4061] (.slice p4056 x4050.Copy.length c4057) rfl (by kernel_rfl) (by kernel_rfl) (by kernel_rfl) (M4236.blk 0 (b := b4064) (o := .cells ⟨[.slice p4052 x4050.Memory.length c4053, .slice p4056 x4050.Copy.length c4057, .slice p4060 x4050.Dirty.length c4061]⟩ 28 (0, 0)) (by kernel_rfl))) ?_
            refine W_run 1 [(1, .pointer (some ⟨b4064, 0, none⟩)), (3, .int .i64 s4231), (4, .int .i64 y4243), (34, .slice p4052 x4050.Memory.length c4053), (35, .int .i64 (x4050.Memory.length : Int)), (36, .int .i64 s4231), (42, .slice p4056 x4050.Copy.length c4057), (43, .int .i64 s4231)] w4235 (by kernel_rfl) ?_
            obtain ⟨y4250, hy4250, hm⟩ := gx_bind hm
            refine W_val (elemP p4056 (s4231.toNat * 1)) w4235 (by kernel_rfl) (E_index (E := encI) _ _ _ x4050.Copy.length c4057 .i64 s4231 1 (y := y4250) rfl (by kernel_rfl) (by kernel_rfl) (by kernel_rfl) (h4058.mem0 M4236) rfl hy4250) ?_
            refine W_val (.int .i64 y4250) w4235 (by kernel_rfl) (E_loadE (E := encI) _ _ false 1 s4231 0 (s4231.toNat * 1) y4250 (.int .i64 y4250) rfl (by kernel_rfl) (by kernel_rfl) (by kernel_rfl) (h4058.mem0 M4236) hy4250 rfl) ?_
            refine W_run 3 [(1, .pointer (some ⟨b4064, 0, none⟩)), (3, .int .i64 s4231), (34, .slice p4052 x4050.Memory.length c4053), (35, .int .i64 (x4050.Memory.length : Int)), (36, .int .i64 s4231), (48, .bool (y4250 != y4243))] w4235 (by kernel_rfl) ?_
            rcases gx_bif hm with ⟨hc4251, hm⟩ | ⟨hc4251, hm⟩
            · refine W_known 48 true (by kernel_rfl) hc4251 ?_
              refine W_run 1 [(1, .pointer (some ⟨b4064, 0, none⟩)), (3, .int .i64 s4231), (34, .slice p4052 x4050.Memory.length c4053), (35, .int .i64 (x4050.Memory.length : Int)), (36, .int .i64 s4231), (48, .bool true), (49, .pointer (some ⟨b4064, 2, none⟩))] w4235 (by kernel_rfl) ?_
              refine W_val (.slice p4060 x4050.Dirty.length c4061) w4235 (by kernel_rfl) (E_load (e := 28) (fr := (0, 0)) _ _ false 1 b4064 2 [.slice p4052 x4050.Memory.length c4053, .slice p4056 x4050.Copy.length c4057, .slice p4060 x4050.Dirty.length c4061] (.slice p4060 x4050.Dirty.length c4061) rfl (by kernel_rfl) (by kernel_rfl) (by kernel_rfl) (M4236.blk 0 (b := b4064) (o := .cells ⟨[.slice p4052 x4050.Memory.length c4053, .slice p4056 x4050.Copy.length c4057, .slice p4060 x4050.Dirty.length c4061]⟩ 28 (0, 0)) (by kernel_rfl))) ?_
              refine W_run 1 [(1, .pointer (some ⟨b4064, 0, none⟩)), (34, .slice p4052 x4050.Memory.length c4053), (35, .int .i64 (x4050.Memory.length : Int)), (36, .int .i64 s4231), (48, .bool true), (50, .slice p4060 x4050.Dirty.length c4061), (51, .int .i64 s4231)] w4235 (by kernel_rfl) ?_
              obtain ⟨y4252, hy4252, hm⟩ := gx_bind hm
              refine W_val (elemP p4060 (s4231.toNat * 1)) w4235 (by kernel_rfl) (E_index (E := encB) _ _ _ x4050.Dirty.length c4061 .i64 s4231 1 (y := y4252) rfl (by kernel_rfl) (by kernel_rfl) (by kernel_rfl) (h4062.mem0 M4236) rfl hy4252) ?_
              refine W_val (.bool y4252) w4235 (by kernel_rfl) (E_loadE (E := encB) _ _ false 1 s4231 0 (s4231.toNat * 1) y4252 (.bool y4252) rfl (by kernel_rfl) (by kernel_rfl) (by kernel_rfl) (h4062.mem0 M4236) hy4252 rfl) ?_
              refine W_run 2 [(1, .pointer (some ⟨b4064, 0, none⟩)), (34, .slice p4052 x4050.Memory.length c4053), (35, .int .i64 (x4050.Memory.length : Int)), (36, .int .i64 s4231), (55, .bool (!y4252))] w4235 (by kernel_rfl) ?_
              refine W_nil ?_
              obtain rfl := Option.some.inj hm
              exact N_meet fun a ha => ⟨M4236.pick [0] (by kernel_rfl), ha.sub (by kernel_rfl)⟩
            · refine W_known 48 false (by kernel_rfl) hc4251 ?_
              refine W_run 7 [(1, .pointer (some ⟨b4064, 0, none⟩)), (34, .slice p4052 x4050.Memory.length c4053), (35, .int .i64 (x4050.Memory.length : Int)), (36, .int .i64 s4231), (55, .bool false)] w4235 (by kernel_rfl) ?_
              refine W_nil ?_
              obtain rfl := Option.some.inj hm
              exact N_meet fun a ha => ⟨M4236.pick [0] (by kernel_rfl), ha.sub (by kernel_rfl)⟩
          · intro a4255 w4253 ⟨M4254, hS4256⟩
            refine N_use hS4256 ?_
            have hm := hm4249
            refine N_then ?_
            rcases gx_bif hm with ⟨hc4257, hm⟩ | ⟨hc4257, hm⟩
            · refine G_cond_t (b := o4247) hc4257 (by kernel_rfl) ?_
              refine G_seq ?_
              refine G_region ?_
              refine W_run 1 [(2, .bool false)] w4253 (by kernel_rfl) ?_
              refine W_nil ?_
              refine N_then ?_
              refine G_ret ?_
              refine N_block_ret ?_
              refine N_then_ret ?_
              refine N_then_ret ?_
              obtain rfl := Option.some.inj hm
              obtain rfl := hout4233 _ rfl
              have hm := hmo4240; simp only [Sum.elim_inr] at hm
              refine N_block_ret ?_
              refine N_meet_ret ?_
              refine N_then_ret ?_
              obtain rfl := Option.some.inj hm
              refine N_ret [.bool false] (RVs_cons (RV_tmp (by kernel_rfl)) RVs_nil) ?_
              exact ⟨rfl, M4254.pick [] (by kernel_rfl)⟩
            · refine G_cond_f (b := o4247) hc4257 (by kernel_rfl) ?_
              refine G_skip ?_
              refine N_block ?_
              refine N_then ?_
              refine G_region ?_
              refine W_run 2 [(1, .pointer (some ⟨b4064, 0, none⟩)), (34, .slice p4052 x4050.Memory.length c4053), (35, .int .i64 (x4050.Memory.length : Int)), (36, .int .i64 (w64 (s4231 + 1)))] w4253 (by kernel_rfl) ?_
              refine W_nil ?_
              obtain rfl := Option.some.inj hm
              exact N_loop fun a ha => ⟨_, rfl, M4254.pick [0] (by kernel_rfl), ha.sub (by kernel_rfl)⟩
        · refine G_cond_f (b := (decide (s4231 < (x4050.Memory.length : Int)))) hc4242 (by kernel_rfl) ?_
          refine G_exit ?_
          refine N_then_exit ?_
          refine N_then_exit ?_
          refine N_block_eq ?_
          obtain rfl := Option.some.inj hm
          obtain rfl := hout4233 _ rfl
          exact N_meet fun a ha => ⟨_, rfl, M4236.pick [] (by kernel_rfl), ha.sub (by kernel_rfl)⟩
      · intro a4258 w4259 ⟨o4241, hout_, M4260, hS4261⟩
        refine N_use hS4261 ?_
        subst hout_
        have hm := hmo4240; simp only [Sum.elim_inl] at hm
        refine N_then ?_
        refine G_seq ?_
        refine G_region ?_
        refine W_run 1 [(2, .bool true)] w4259 (by kernel_rfl) ?_
        refine W_nil ?_
        refine N_then ?_
        refine G_ret ?_
        obtain rfl := Option.some.inj hm
        refine N_ret [.bool true] (RVs_cons (RV_tmp (by kernel_rfl)) RVs_nil) ?_
        exact ⟨rfl, M4260.pick [] (by kernel_rfl)⟩
theorem c_i_copyInts (w : World) (x4331 : List Int) (p4333 : Option Addr) (c4334 : Nat) (h4335 : rdS encI w x4331 p4333 c4334) {r : (List Int)} (hm : M.i_copyInts x4331 = some r) :
    Calls Try.prog 62 #[.slice p4333 x4331.length c4334] w fun e w' => ∃ (p4337 : Option Addr) (c4338 : Nat) (sg4339 : Seg), e = .returned (.slice p4337 r.length c4338) ∧ ownS encI r p4337 c4338 sg4339 ∧ Mem [] w w' [sg4339] := by
  unfold M.i_copyInts at hm
  refine C_enter Try.func62 rfl (by kernel_rfl) ?_
  have M0 := Mem.refl [] w
  refine G_seq ?_
  refine G_region ?_
  refine W_run 1 [(0, .slice p4333 x4331.length c4334)] w (by kernel_rfl) ?_
  refine W_nil ?_
  refine N_then ?_
  refine G_seq ?_
  refine G_region ?_
  refine W_lit (E := encI) ([] : List Int) 0 [] 3 M0 (by kernel_rfl) (by kernel_rfl) (by kernel_rfl) (by kernel_rfl) (by kernel_rfl) ?_
  intro p4341 c4342 sg4343 w4344 ho4345 M4346
  refine W_run 1 [(3, .slice p4341 ([] : List Int).length c4342), (4, .slice p4333 x4331.length c4334)] w4344 (by kernel_rfl) ?_
  obtain ⟨ap4348, hap4348, hm⟩ := gx_bind hm
  refine W_append (E := encI) _ _ _ 8 [.int .i64 0] 0 c4334 M4346 ho4345 (by kernel_rfl) (by kernel_rfl) (by kernel_rfl) rfl (by kernel_rfl) (by kernel_rfl) (by kernel_rfl) (by kernel_rfl) (by kernel_rfl) (by kernel_rfl) (h4335.mem0 M4346) hap4348 ?_
  intro p4349 c4350 sg4351 w4352 ho4353 M4354
  refine W_run 1 [(2, .slice p4349 ap4348.length c4350)] w4352 (by kernel_rfl) ?_
  refine W_nil ?_
  refine N_then ?_
  refine G_ret ?_
  obtain rfl := Option.some.inj hm
  refine N_ret [.slice p4349 ap4348.length c4350] (RVs_cons (RV_tmp (by kernel_rfl)) RVs_nil) ?_
  exact ⟨p4349, c4350, sg4351, rfl, ho4353, M4354.pick [0] (by kernel_rfl)⟩
theorem c_i_newCopying (w : World) (x4293 : Copying) (p4295 : Option Addr) (c4296 : Nat) (h4297 : rdS encI w x4293.Memory p4295 c4296) (p4299 : Option Addr) (c4300 : Nat) (h4301 : rdS encI w x4293.Copy p4299 c4300) (p4303 : Option Addr) (c4304 : Nat) (h4305 : rdS encB w x4293.Dirty p4303 c4304) {r : Copying} (hm : M.i_newCopying x4293 = some r) :
    Calls Try.prog 71 #[.agg #[.slice p4295 x4293.Memory.length c4296, .slice p4299 x4293.Copy.length c4300, .slice p4303 x4293.Dirty.length c4304]] w fun e w' => ∃ (p4307 : Option Addr) (c4308 : Nat) (sg4309 : Seg), ∃ (p4311 : Option Addr) (c4312 : Nat) (sg4313 : Seg), ∃ (p4315 : Option Addr) (c4316 : Nat) (sg4317 : Seg), e = .returned (.agg #[.slice p4307 r.Memory.length c4308, .slice p4311 r.Copy.length c4312, .slice p4315 r.Dirty.length c4316]) ∧ ownS encI r.Memory p4307 c4308 sg4309 ∧ ownS encI r.Copy p4311 c4312 sg4313 ∧ ownS encB r.Dirty p4315 c4316 sg4317 ∧ Mem [] w w' [sg4309, sg4313, sg4317] := by
  unfold M.i_newCopying at hm
  refine C_enter Try.func71 rfl (by kernel_rfl) ?_
  have M0 := Mem.refl [] w
  refine G_seq ?_
  refine G_region ?_
  refine W_new (fun b => .pointer (some ⟨b, 0, none⟩)) (.cells ⟨[.slice p4295 x4293.Memory.length c4296, .slice p4299 x4293.Copy.length c4300, .slice p4303 x4293.Dirty.length c4304]⟩ 28 (0, 0)) M0 rfl (by kernel_rfl) (by kernel_rfl) ?_
  intro b4319 w4320 M4321
  refine W_new (fun b => .pointer (some ⟨b, 0, none⟩)) (.cells ⟨[.slice none 0 0, .slice none 0 0, .slice none 0 0]⟩ 28 (0, 0)) M4321 rfl (by kernel_rfl) (by kernel_rfl) ?_
  intro b4326 w4327 M4328
  refine W_nil ?_
  refine N_then ?_
  refine G_seq ?_
  obtain ⟨r4356, hr4356, hm⟩ := gx_bind hm
  obtain ⟨r4362, hr4362, hm⟩ := gx_bind hm
  refine G_sub [(0, .agg #[.slice p4295 x4293.Memory.length c4296, .slice p4299 x4293.Copy.length c4300, .slice p4303 x4293.Dirty.length c4304]), (1, .pointer (some ⟨b4319, 0, none⟩)), (2, .pointer (some ⟨b4326, 0, none⟩))] (by kernel_rfl) ?_
  refine G_dagL 9 [[], [0], [1], [], [3], [4], [], [], [7]] [[], [], [], [], [], [], [], [], []] [[], [], [], [], [], [], [], [], []] [[], [], [], [], [], [], [], [], []] [[], [], [], [], [], [], [], [], []] [[], [], [], [], [], [], [], [], []] (fun _ => []) (fun i => ([fun f v s => v = (.pointer (some ⟨b4319, 0, none⟩) : Value) ∧ s = [], fun f v s => v = (.slice p4295 x4293.Memory.length c4296 : Value) ∧ s = [], fun f v s => ∃ (p4358 : Option Addr) (c4359 : Nat), v = (.slice p4358 r4356.length c4359 : Value) ∧ ownS encI r4356 p4358 c4359 s, fun f v s => v = (.pointer (some ⟨b4319, 1, none⟩) : Value) ∧ s = [], fun f v s => v = (.slice p4299 x4293.Copy.length c4300 : Value) ∧ s = [], fun f v s => ∃ (p4364 : Option Addr) (c4365 : Nat), v = (.slice p4364 r4362.length c4365 : Value) ∧ ownS encI r4362 p4364 c4365 s, fun f v s => ∃ (p4369 : Option Addr) (c4370 : Nat), v = (.slice p4369 ([] : List Bool).length c4370 : Value) ∧ ownS encB ([] : List Bool) p4369 c4370 s, fun f v s => v = (.pointer (some ⟨b4319, 2, none⟩) : Value) ∧ s = [], fun f v s => v = (.slice p4303 x4293.Dirty.length c4304 : Value) ∧ s = []] : List ((Nat → Value) → Value → Seg → Prop)).getD i (fun _ _ _ => False)) (fun j f v => ∃ s, (fun i => ([fun f v s => v = (.pointer (some ⟨b4319, 0, none⟩) : Value) ∧ s = [], fun f v s => v = (.slice p4295 x4293.Memory.length c4296 : Value) ∧ s = [], fun f v s => ∃ (p4358 : Option Addr) (c4359 : Nat), v = (.slice p4358 r4356.length c4359 : Value) ∧ ownS encI r4356 p4358 c4359 s, fun f v s => v = (.pointer (some ⟨b4319, 1, none⟩) : Value) ∧ s = [], fun f v s => v = (.slice p4299 x4293.Copy.length c4300 : Value) ∧ s = [], fun f v s => ∃ (p4364 : Option Addr) (c4365 : Nat), v = (.slice p4364 r4362.length c4365 : Value) ∧ ownS encI r4362 p4364 c4365 s, fun f v s => ∃ (p4369 : Option Addr) (c4370 : Nat), v = (.slice p4369 ([] : List Bool).length c4370 : Value) ∧ ownS encB ([] : List Bool) p4369 c4370 s, fun f v s => v = (.pointer (some ⟨b4319, 2, none⟩) : Value) ∧ s = [], fun f v s => v = (.slice p4303 x4293.Dirty.length c4304 : Value) ∧ s = []] : List ((Nat → Value) → Value → Seg → Prop)).getD i (fun _ _ _ => False)) j f v s) [] [2, 5, 6, 8] [2, 5, 6] (fun _ _ _ s h => ⟨s, h⟩) (by kernel_rfl) (by kernel_rfl) (M4328.preNil 9) (by kernel_rfl) (by kernel_rfl) (by kernel_rfl) (by kernel_rfl) (allOb_cons ?_ (allOb_cons ?_ (allOb_cons ?_ (allOb_cons ?_ (allOb_cons ?_ (allOb_cons ?_ (allOb_cons ?_ (allOb_cons ?_ (allOb_cons ?_ allOb_nil))))))))) ?_
  · intro g4329 f4330
    intro R w4373 M4374
    refine W_run 1 [(3, .pointer (some ⟨b4319, 0, none⟩))] w4373 (by kernel_rfl) ?_
    exact W_nil (ob_end (.pointer (some ⟨b4319, 0, none⟩)) [] rfl (by kernel_rfl) ⟨by kernel_rfl, rfl⟩ M4374)
  · intro g4329 f4330
    intro v0_ hb0_
    obtain ⟨rfl, _⟩ := hb0_
    intro R w4377 M4378
    refine W_val (.slice p4295 x4293.Memory.length c4296) w4377 (by kernel_rfl) (E_load (e := 28) (fr := (0, 0)) _ _ false 1 b4319 0 [.slice p4295 x4293.Memory.length c4296, .slice p4299 x4293.Copy.length c4300, .slice p4303 x4293.Dirty.length c4304] (.slice p4295 x4293.Memory.length c4296) rfl (by kernel_rfl) (by kernel_rfl) (by kernel_rfl) (M4378.blk 0 (b := b4319) (o := .cells ⟨[.slice p4295 x4293.Memory.length c4296, .slice p4299 x4293.Copy.length c4300, .slice p4303 x4293.Dirty.length c4304]⟩ 28 (0, 0)) (by kernel_rfl))) ?_
    exact W_nil (ob_end (.slice p4295 x4293.Memory.length c4296) [] rfl (by kernel_rfl) ⟨by kernel_rfl, rfl⟩ M4378)
  · intro g4329 f4330
    intro v1_ hb1_
    obtain ⟨rfl, _⟩ := hb1_
    intro R w4381 M4382
    refine W_call 62 #[.slice p4295 x4293.Memory.length c4296] (by kernel_rfl) (by kernel_rfl) ?_
    refine (c_i_copyInts w4381 x4293.Memory p4295 c4296 (h4297.mem0 M4382) hr4356).mono ?_
    rintro e_ w4383 ⟨p4358, c4359, sg4360, rfl, ho4361, K4385⟩
    refine ⟨_, rfl, ?_⟩
    exact W_nil (ob_end (.slice p4358 r4356.length c4359) sg4360 rfl (by kernel_rfl) ⟨p4358, c4359, rfl, ho4361⟩ (Mem.callMid M4382 K4385))
  · intro g4329 f4330
    intro R w4386 M4387
    refine W_run 1 [(6, .pointer (some ⟨b4319, 1, none⟩))] w4386 (by kernel_rfl) ?_
    exact W_nil (ob_end (.pointer (some ⟨b4319, 1, none⟩)) [] rfl (by kernel_rfl) ⟨by kernel_rfl, rfl⟩ M4387)
  · intro g4329 f4330
    intro v3_ hb3_
    obtain ⟨rfl, _⟩ := hb3_
    intro R w4390 M4391
    refine W_val (.slice p4299 x4293.Copy.length c4300) w4390 (by kernel_rfl) (E_load (e := 28) (fr := (0, 0)) _ _ false 1 b4319 1 [.slice p4295 x4293.Memory.length c4296, .slice p4299 x4293.Copy.length c4300, .slice p4303 x4293.Dirty.length c4304] (.slice p4299 x4293.Copy.length c4300) rfl (by kernel_rfl) (by kernel_rfl) (by kernel_rfl) (M4391.blk 0 (b := b4319) (o := .cells ⟨[.slice p4295 x4293.Memory.length c4296, .slice p4299 x4293.Copy.length c4300, .slice p4303 x4293.Dirty.length c4304]⟩ 28 (0, 0)) (by kernel_rfl))) ?_
    exact W_nil (ob_end (.slice p4299 x4293.Copy.length c4300) [] rfl (by kernel_rfl) ⟨by kernel_rfl, rfl⟩ M4391)
  · intro g4329 f4330
    intro v4_ hb4_
    obtain ⟨rfl, _⟩ := hb4_
    intro R w4394 M4395
    refine W_call 62 #[.slice p4299 x4293.Copy.length c4300] (by kernel_rfl) (by kernel_rfl) ?_
    refine (c_i_copyInts w4394 x4293.Copy p4299 c4300 (h4301.mem0 M4395) hr4362).mono ?_
    rintro e_ w4396 ⟨p4364, c4365, sg4366, rfl, ho4367, K4398⟩
    refine ⟨_, rfl, ?_⟩
    exact W_nil (ob_end (.slice p4364 r4362.length c4365) sg4366 rfl (by kernel_rfl) ⟨p4364, c4365, rfl, ho4367⟩ (Mem.callMid M4395 K4398))
  · intro g4329 f4330
    intro R w4399 M4400
    refine W_lit (E := encB) ([] : List Bool) 0 [] 4 M4400 (by kernel_rfl) (by kernel_rfl) (by kernel_rfl) (by kernel_rfl) (by kernel_rfl) ?_
    intro p4369 c4370 sg4371 w4401 ho4372 M4402
    exact W_nil (ob_end (.slice p4369 ([] : List Bool).length c4370) sg4371 rfl (by kernel_rfl) ⟨p4369, c4370, rfl, ho4372⟩ (Mem.mid M4402))
  · intro g4329 f4330
    intro R w4403 M4404
    refine W_run 1 [(10, .pointer (some ⟨b4319, 2, none⟩))] w4403 (by kernel_rfl) ?_
    exact W_nil (ob_end (.pointer (some ⟨b4319, 2, none⟩)) [] rfl (by kernel_rfl) ⟨by kernel_rfl, rfl⟩ M4404)
  · intro g4329 f4330
    intro v7_ hb7_
    obtain ⟨rfl, _⟩ := hb7_
    intro R w4407 M4408
    refine W_val (.slice p4303 x4293.Dirty.length c4304) w4407 (by kernel_rfl) (E_load (e := 28) (fr := (0, 0)) _ _ false 1 b4319 2 [.slice p4295 x4293.Memory.length c4296, .slice p4299 x4293.Copy.length c4300, .slice p4303 x4293.Dirty.length c4304] (.slice p4303 x4293.Dirty.length c4304) rfl (by kernel_rfl) (by kernel_rfl) (by kernel_rfl) (M4408.blk 0 (b := b4319) (o := .cells ⟨[.slice p4295 x4293.Memory.length c4296, .slice p4299 x4293.Copy.length c4300, .slice p4303 x4293.Dirty.length c4304]⟩ 28 (0, 0)) (by kernel_rfl))) ?_
    exact W_nil (ob_end (.slice p4303 x4293.Dirty.length c4304) [] rfl (by kernel_rfl) ⟨by kernel_rfl, rfl⟩ M4408)
  · intro g4329 f4330
    intro v2_ hb2_
    obtain ⟨p4358, c4359, rfl, ho4361⟩ := hb2_
    intro v5_ hb5_
    obtain ⟨p4364, c4365, rfl, ho4367⟩ := hb5_
    intro v6_ hb6_
    obtain ⟨p4369, c4370, rfl, ho4372⟩ := hb6_
    intro v8_ hb8_
    obtain ⟨rfl, _⟩ := hb8_
    intro w4411 M4412
    have M4413 : Mem [] w w4411 [[(b4319, .cells ⟨[.slice p4295 x4293.Memory.length c4296, .slice p4299 x4293.Copy.length c4300, .slice p4303 x4293.Dirty.length c4304]⟩ 28 (0, 0))], [(b4326, .cells ⟨[.slice none 0 0, .slice none 0 0, .slice none 0 0]⟩ 28 (0, 0))], (g4329 2), (g4329 5), (g4329 6)] := M4412
    obtain ⟨ap4414, hap4414, hm⟩ := gx_bind hm
    refine W_append (E := encB) _ _ _ 1 [.bool false] 4 c4304 M4413 ho4372 (by kernel_rfl) (by kernel_rfl) (by kernel_rfl) rfl (by kernel_rfl) (by kernel_rfl) (by kernel_rfl) (by kernel_rfl) (by kernel_rfl) (by kernel_rfl) (h4305.mem0 M4413) hap4414 ?_
    intro p4415 c4416 sg4417 w4418 ho4419 M4420
    refine W_run 1 [(2, .pointer (some ⟨b4326, 0, none⟩)), (13, .agg #[.slice p4358 r4356.length c4359, .slice p4364 r4362.length c4365, .slice p4415 ap4414.length c4416])] w4418 (by kernel_rfl) ?_
    refine W_store _ _ _ true 3 b4326 0 [.slice none 0 0, .slice none 0 0, .slice none 0 0] 28 (.agg #[.slice p4358 r4356.length c4359, .slice p4364 r4362.length c4365, .slice p4415 ap4414.length c4416]) 1 [.slice p4358 r4356.length c4359, .slice p4364 r4362.length c4365, .slice p4415 ap4414.length c4416] M4420 (by kernel_rfl) rfl (by kernel_rfl) (by kernel_rfl) (by kernel_rfl) (by kernel_rfl) (by kernel_rfl) (by kernel_rfl) (by kernel_rfl) (by kernel_rfl) ?_
    intro w4425 M4426
    refine W_nil ?_
    refine N_then ?_
    refine G_ret ?_
    obtain rfl := Option.some.inj hm
    refine N_ret [.agg #[.slice p4358 r4356.length c4359, .slice p4364 r4362.length c4365, .slice p4415 ap4414.length c4416]] (RVs_cons (RV_cell (g := true) (k := 3) (b := b4326) (off := 0) (cs := [.slice p4358 r4356.length c4359, .slice p4364 r4362.length c4365, .slice p4415 ap4414.length c4416]) (e := 28) (fr := (0, 0)) (v := .agg #[.slice p4358 r4356.length c4359, .slice p4364 r4362.length c4365, .slice p4415 ap4414.length c4416]) (M4426.blk 1 (b := b4326) (o := .cells ⟨[.slice p4358 r4356.length c4359, .slice p4364 r4362.length c4365, .slice p4415 ap4414.length c4416]⟩ 28 (0, 0)) (by kernel_rfl)) (by kernel_rfl) (by kernel_rfl) (by kernel_rfl)) RVs_nil) ?_
    exact ⟨p4358, c4359, (g4329 2), p4364, c4365, (g4329 5), p4415, c4416, sg4417, rfl, ho4361, ho4367, ho4419, M4426.pick [2, 3, 4] (by kernel_rfl)⟩
theorem c_i_Copying_round (w : World) (x4455 : Copying) (p4459 : Option Addr) (c4460 : Nat) (sg4461 : Seg) (ho4462 : ownS encI x4455.Memory p4459 c4460 sg4461) (p4464 : Option Addr) (c4465 : Nat) (sg4466 : Seg) (ho4467 : ownS encI x4455.Copy p4464 c4465 sg4466) (p4469 : Option Addr) (c4470 : Nat) (sg4471 : Seg) (ho4472 : ownS encB x4455.Dirty p4469 c4470 sg4471) (b4457 : Nat) (x4473 : Int) (hA : ∀ q ∈ List.flatten [[(b4457, .cells ⟨[.slice p4459 x4455.Memory.length c4460, .slice p4464 x4455.Copy.length c4465, .slice p4469 x4455.Dirty.length c4470]⟩ 28 (0, 0))], sg4461, sg4466, sg4471], w.heap[q.1]? = some q.2) (hN : (idsOf [[(b4457, .cells ⟨[.slice p4459 x4455.Memory.length c4460, .slice p4464 x4455.Copy.length c4465, .slice p4469 x4455.Dirty.length c4470]⟩ 28 (0, 0))], sg4461, sg4466, sg4471]).Nodup) {r : Int × (List Int) × (List Int) × (List Bool)} (hm : M.i_Copying_round x4455 x4473 = some r) :
    Calls Try.prog 75 #[.pointer (some ⟨b4457, 0, none⟩), .int .i64 x4473] w fun e w' => ∃ (p4474 : Option Addr) (c4475 : Nat) (sg4476 : Seg), ∃ (p4477 : Option Addr) (c4478 : Nat) (sg4479 : Seg), ∃ (p4480 : Option Addr) (c4481 : Nat) (sg4482 : Seg), e = .returned (.int .i64 r.1) ∧ ownS encI r.2.1 p4474 c4475 sg4476 ∧ ownS encI r.2.2.1 p4477 c4478 sg4479 ∧ ownS encB r.2.2.2 p4480 c4481 sg4482 ∧ Mem (idsOf [[(b4457, .cells ⟨[.slice p4459 x4455.Memory.length c4460, .slice p4464 x4455.Copy.length c4465, .slice p4469 x4455.Dirty.length c4470]⟩ 28 (0, 0))], sg4461, sg4466, sg4471]) w w' [[(b4457, .cells ⟨[.slice p4474 r.2.1.length c4475, .slice p4477 r.2.2.1.length c4478, .slice p4480 r.2.2.2.length c4481]⟩ 28 (0, 0))], sg4476, sg4479, sg4482] := by
  unfold M.i_Copying_round at hm
  refine C_enter Try.func75 rfl (by kernel_rfl) ?_
  have M0 := Mem.start' w [[(b4457, .cells ⟨[.slice p4459 x4455.Memory.length c4460, .slice p4464 x4455.Copy.length c4465, .slice p4469 x4455.Dirty.length c4470]⟩ 28 (0, 0))], sg4461, sg4466, sg4471] hA hN
  refine G_seq ?_
  refine G_region ?_
  refine W_run 1 [(0, .pointer (some ⟨b4457, 0, none⟩)), (1, .int .i64 x4473)] w (by kernel_rfl) ?_
  refine W_nil ?_
  refine N_then ?_
  refine G_seq ?_
  refine G_region ?_
  refine W_run 1 [(0, .pointer (some ⟨b4457, 0, none⟩)), (1, .int .i64 x4473), (5, .int .i64 0)] w (by kernel_rfl) ?_
  refine W_nil ?_
  refine N_then ?_
  refine G_seq ?_
  refine G_seq ?_
  refine G_region ?_
  refine W_run 3 [(0, .pointer (some ⟨b4457, 0, none⟩)), (1, .int .i64 x4473), (5, .int .i64 0), (10, .pointer (some ⟨b4457, 2, none⟩))] w (by kernel_rfl) ?_
  refine W_val (.slice p4469 x4455.Dirty.length c4470) w (by kernel_rfl) (E_load (e := 28) (fr := (0, 0)) _ _ false 1 b4457 2 [.slice p4459 x4455.Memory.length c4460, .slice p4464 x4455.Copy.length c4465, .slice p4469 x4455.Dirty.length c4470] (.slice p4469 x4455.Dirty.length c4470) rfl (by kernel_rfl) (by kernel_rfl) (by kernel_rfl) (M0.blk 0 (b := b4457) (o := .cells ⟨[.slice p4459 x4455.Memory.length c4460, .slice p4464 x4455.Copy.length c4465, .slice p4469 x4455.Dirty.length c4470]⟩ 28 (0, 0)) (by kernel_rfl))) ?_
  refine W_run 2 [(0, .pointer (some ⟨b4457, 0, none⟩)), (1, .int .i64 x4473), (5, .int .i64 0), (11, .slice p4469 x4455.Dirty.length c4470), (12, .int .i64 (x4455.Dirty.length : Int)), (13, .int .i64 0)] w (by kernel_rfl) ?_
  refine W_nil ?_
  refine N_then ?_
  obtain ⟨out4918, hw4919, hmo4920⟩ := gx_bind hm
  refine G_meet (fun a w' => ∃ (sg4926 : Seg), ∃ (sg4928 : Seg), ownS encI out4918.2.1 p4464 c4465 sg4926 ∧ ownS encB out4918.2.2 p4469 c4470 sg4928 ∧ Mem (idsOf [[(b4457, .cells ⟨[.slice p4459 x4455.Memory.length c4460, .slice p4464 x4455.Copy.length c4465, .slice p4469 x4455.Dirty.length c4470]⟩ 28 (0, 0))], sg4461, sg4466, sg4471]) w w' [[(b4457, .cells ⟨[.slice p4459 x4455.Memory.length c4460, .slice p4464 out4918.2.1.length c4465, .slice p4469 out4918.2.2.length c4470]⟩ 28 (0, 0))], sg4461, sg4926, sg4928] ∧ Sat Try.f75.ntmps [(5, .int .i64 out4918.1)] a) ?_ ?_
  · refine G_block ?_
    refine G_while (σ := Int × Int × List Int × List Bool) (ρ := Int × List Int × List Bool) (fun s4911 a w' => ∃ (sg4921 : Seg), ∃ (sg4923 : Seg), ownS encI s4911.2.2.1 p4464 c4465 sg4921 ∧ ownS encB s4911.2.2.2 p4469 c4470 sg4923 ∧ Mem (idsOf [[(b4457, .cells ⟨[.slice p4459 x4455.Memory.length c4460, .slice p4464 x4455.Copy.length c4465, .slice p4469 x4455.Dirty.length c4470]⟩ 28 (0, 0))], sg4461, sg4466, sg4471]) w w' [[(b4457, .cells ⟨[.slice p4459 x4455.Memory.length c4460, .slice p4464 s4911.2.2.1.length c4465, .slice p4469 s4911.2.2.2.length c4470]⟩ 28 (0, 0))], sg4461, sg4921, sg4923] ∧ Sat Try.f75.ntmps [(0, .pointer (some ⟨b4457, 0, none⟩)), (1, .int .i64 x4473), (5, .int .i64 s4911.1), (11, .slice p4469 s4911.2.2.2.length c4470), (12, .int .i64 (x4455.Dirty.length : Int)), (13, .int .i64 s4911.2.1)] a) hw4919 (fun a ha => ⟨sg4466, sg4471, ho4467, ho4472, M0.pick [0, 1, 2, 3] (by kernel_rfl), ha.sub (by kernel_rfl)⟩) ?_
    clear hm
    intro s4911 x4912 hm hout4913 a4914 w4915 ⟨sg4921, sg4923, ho4922, ho4924, M4916, hS4917⟩
    refine G_use hS4917 ?_
    refine G_seq ?_
    refine G_region ?_
    refine W_run 1 [(0, .pointer (some ⟨b4457, 0, none⟩)), (1, .int .i64 x4473), (5, .int .i64 s4911.1), (11, .slice p4469 s4911.2.2.2.length c4470), (12, .int .i64 (x4455.Dirty.length : Int)), (13, .int .i64 s4911.2.1), (14, .bool (decide (s4911.2.1 < (x4455.Dirty.length : Int))))] w4915 (by kernel_rfl) ?_
    refine W_nil ?_
    refine N_then ?_
    refine G_seq ?_
    rcases gx_bif hm with ⟨hc4930, hm⟩ | ⟨hc4930, hm⟩
    · refine G_cond_t (b := (decide (s4911.2.1 < (x4455.Dirty.length : Int)))) hc4930 (by kernel_rfl) ?_
      refine G_skip ?_
      refine N_then ?_
      refine G_seq ?_
      refine G_block ?_
      refine G_seq ?_
      refine G_region ?_
      refine W_run 1 [(0, .pointer (some ⟨b4457, 0, none⟩)), (1, .int .i64 x4473), (5, .int .i64 s4911.1), (11, .slice p4469 s4911.2.2.2.length c4470), (12, .int .i64 (x4455.Dirty.length : Int)), (13, .int .i64 s4911.2.1), (15, .int .i64 s4911.2.1)] w4915 (by kernel_rfl) ?_
      obtain ⟨y4931, hy4931, hm⟩ := gx_bind hm
      refine W_val (elemP p4469 (s4911.2.1.toNat * 1)) w4915 (by kernel_rfl) (E_index (E := encB) _ _ _ s4911.2.2.2.length c4470 .i64 s4911.2.1 1 (y := y4931) rfl (by kernel_rfl) (by kernel_rfl) (by kernel_rfl) (ho4924.rd M4916 3 (by kernel_rfl)) rfl hy4931) ?_
      refine W_val (.bool y4931) w4915 (by kernel_rfl) (E_loadE (E := encB) _ _ false 1 s4911.2.1 0 (s4911.2.1.toNat * 1) y4931 (.bool y4931) rfl (by kernel_rfl) (by kernel_rfl) (by kernel_rfl) (ho4924.rd M4916 3 (by kernel_rfl)) hy4931 rfl) ?_
      refine W_run 2 [(0, .pointer (some ⟨b4457, 0, none⟩)), (1, .int .i64 x4473), (5, .int .i64 s4911.1), (6, .int .i64 s4911.2.1), (7, .bool y4931), (11, .slice p4469 s4911.2.2.2.length c4470), (12, .int .i64 (x4455.Dirty.length : Int)), (13, .int .i64 s4911.2.1)] w4915 (by kernel_rfl) ?_
      refine W_nil ?_
      refine N_then ?_
      refine G_seq ?_
      obtain ⟨o4933, ho4934, hm4935⟩ := gx_bind hm
      refine G_meet (fun a w' => Mem (idsOf [[(b4457, .cells ⟨[.slice p4459 x4455.Memory.length c4460, .slice p4464 x4455.Copy.length c4465, .slice p4469 x4455.Dirty.length c4470]⟩ 28 (0, 0))], sg4461, sg4466, sg4471]) w w' [[(b4457, .cells ⟨[.slice p4459 x4455.Memory.length c4460, .slice p4464 s4911.2.2.1.length c4465, .slice p4469 s4911.2.2.2.length c4470]⟩ 28 (0, 0))], sg4461, sg4921, sg4923] ∧ Sat Try.f75.ntmps [(0, .pointer (some ⟨b4457, 0, none⟩)), (1, .int .i64 x4473), (5, .int .i64 s4911.1), (6, .int .i64 s4911.2.1), (11, .slice p4469 s4911.2.2.2.length c4470), (12, .int .i64 (x4455.Dirty.length : Int)), (13, .int .i64 s4911.2.1), (23, .bool o4933)] a) ?_ ?_
      · have hm := ho4934
        refine G_region ?_
        refine W_run 2 [(0, .pointer (some ⟨b4457, 0, none⟩)), (1, .int .i64 x4473), (5, .int .i64 s4911.1), (6, .int .i64 s4911.2.1), (11, .slice p4469 s4911.2.2.2.length c4470), (12, .int .i64 (x4455.Dirty.length : Int)), (13, .int .i64 s4911.2.1), (19, .bool y4931)] w4915 (by kernel_rfl) ?_
        rcases gx_bif hm with ⟨hc4936, hm⟩ | ⟨hc4936, hm⟩
        · refine W_known 19 true (by kernel_rfl) hc4936 ?_
          refine W_run 4 [(0, .pointer (some ⟨b4457, 0, none⟩)), (1, .int .i64 x4473), (5, .int .i64 s4911.1), (6, .int .i64 s4911.2.1), (11, .slice p4469 s4911.2.2.2.length c4470), (12, .int .i64 (x4455.Dirty.length : Int)), (13, .int .i64 s4911.2.1), (23, .bool (decide (s4911.1 < x4473)))] w4915 (by kernel_rfl) ?_
          refine W_nil ?_
          obtain rfl := Option.some.inj hm
          exact N_meet fun a ha => ⟨M4916.pick [0, 1, 2, 3] (by kernel_rfl), ha.sub (by kernel_rfl)⟩
        · refine W_known 19 false (by kernel_rfl) hc4936 ?_
          refine W_run 4 [(0, .pointer (some ⟨b4457, 0, none⟩)), (1, .int .i64 x4473), (5, .int .i64 s4911.1), (6, .int .i64 s4911.2.1), (11, .slice p4469 s4911.2.2.2.length c4470), (12, .int .i64 (x4455.Dirty.length : Int)), (13, .int .i64 s4911.2.1), (23, .bool false)] w4915 (by kernel_rfl) ?_
          refine W_nil ?_
          obtain rfl := Option.some.inj hm
          exact N_meet fun a ha => ⟨M4916.pick [0, 1, 2, 3] (by kernel_rfl), ha.sub (by kernel_rfl)⟩
      · intro a4939 w4937 ⟨M4938, hS4940⟩
        refine N_use hS4940 ?_
        have hm := hm4935
        refine N_then ?_
        obtain ⟨o5036, ho5037, hm5038⟩ := gx_bind hm
        refine G_meet (fun a w' => ∃ (sg5039 : Seg), ∃ (sg5041 : Seg), ownS encI o5036.2.1 p4464 c4465 sg5039 ∧ ownS encB o5036.2.2 p4469 c4470 sg5041 ∧ Mem (idsOf [[(b4457, .cells ⟨[.slice p4459 x4455.Memory.length c4460, .slice p4464 x4455.Copy.length c4465, .slice p4469 x4455.Dirty.length c4470]⟩ 28 (0, 0))], sg4461, sg4466, sg4471]) w w' [[(b4457, .cells ⟨[.slice p4459 x4455.Memory.length c4460, .slice p4464 o5036.2.1.length c4465, .slice p4469 o5036.2.2.length c4470]⟩ 28 (0, 0))], sg4461, sg5039, sg5041] ∧ Sat Try.f75.ntmps [(0, .pointer (some ⟨b4457, 0, none⟩)), (1, .int .i64 x4473), (5, .int .i64 o5036.1), (11, .slice p4469 o5036.2.2.length c4470), (12, .int .i64 (x4455.Dirty.length : Int)), (13, .int .i64 s4911.2.1)] a) ?_ ?_
        · have hm := ho5037
          rcases gx_bif hm with ⟨hc5043, hm⟩ | ⟨hc5043, hm⟩
          · refine G_cond_t (b := o4933) hc5043 (by kernel_rfl) ?_
            refine G_seq ?_
            obtain ⟨y5046, hy5046, hm⟩ := gx_bind hm
            obtain ⟨y5047, hy5047, hm⟩ := gx_bind hm
            have M5049 : Mem (idsOf [[(b4457, .cells ⟨[.slice p4459 x4455.Memory.length c4460, .slice p4464 x4455.Copy.length c4465, .slice p4469 x4455.Dirty.length c4470]⟩ 28 (0, 0))], sg4461, sg4466, sg4471]) w w4937 ([[(b4457, .cells ⟨[.slice p4459 x4455.Memory.length c4460, .slice p4464 s4911.2.2.1.length c4465, .slice p4469 s4911.2.2.2.length c4470]⟩ 28 (0, 0))], sg4461, sg4923] ++ (List.range 19).map (fun i => ([[], [], [], [], [], [], [], [], [], [], [], [], [], [], [], [], [], [], sg4921] : List Seg).getD i [])) := M4938.pick [0, 1, 3, 300000, 300001, 300002, 300003, 300004, 300005, 300006, 300007, 300008, 300009, 300010, 300011, 300012, 300013, 300014, 300015, 300016, 300017, 2] (by kernel_rfl)
            refine G_sub [(0, .pointer (some ⟨b4457, 0, none⟩)), (1, .int .i64 x4473), (5, .int .i64 s4911.1), (6, .int .i64 s4911.2.1), (11, .slice p4469 s4911.2.2.2.length c4470), (12, .int .i64 (x4455.Dirty.length : Int)), (13, .int .i64 s4911.2.1), (23, .bool o4933)] (by kernel_rfl) ?_
            refine G_dagL 19 [[], [0], [1], [2], [], [], [5], [6], [7], [], [], [10], [11], [12], [], [13, 14], [15], [3, 4], [16, 17]] [[], [], [], [], [], [], [], [], [], [], [], [], [], [], [], [], [], [], []] [[], [], [], [], [], [], [], [], [], [], [], [], [], [], [], [], [], [], []] [[], [], [], [], [], [], [], [], [], [], [], [], [], [], [], [], [], [], []] [[], [], [], [], [], [], [], [], [], [], [], [], [], [], [], [], [], [], []] [[], [], [], [], [], [], [], [], [], [], [], [], [], [], [], [], [], [18], []] (fun i => ([[], [], [], [], [], [], [], [], [], [], [], [], [], [], [], [], [], [], sg4921] : List Seg).getD i []) (fun i => ([fun f v s => v = (.pointer (some ⟨b4457, 0, none⟩) : Value) ∧ s = [], fun f v s => v = (.pointer (some ⟨b4457, 0, none⟩) : Value) ∧ s = [], fun f v s => v = (.pointer (some ⟨b4457, 1, none⟩) : Value) ∧ s = [], fun f v s => v = (.slice p4464 s4911.2.2.1.length c4465 : Value) ∧ s = [], fun f v s => v = (.int .i64 s4911.2.1 : Value) ∧ s = [], fun f v s => v = (.pointer (some ⟨b4457, 0, none⟩) : Value) ∧ s = [], fun f v s => v = (.pointer (some ⟨b4457, 0, none⟩) : Value) ∧ s = [], fun f v s => v = (.pointer (some ⟨b4457, 2, none⟩) : Value) ∧ s = [], fun f v s => v = (.slice p4469 s4911.2.2.2.length c4470 : Value) ∧ s = [], fun f v s => v = (.int .i64 s4911.2.1 : Value) ∧ s = [], fun f v s => v = (.pointer (some ⟨b4457, 0, none⟩) : Value) ∧ s = [], fun f v s => v = (.pointer (some ⟨b4457, 0, none⟩) : Value) ∧ s = [], fun f v s => v = (.pointer (some ⟨b4457, 0, none⟩) : Value) ∧ s = [], fun f v s => v = (.slice p4459 x4455.Memory.length c4460 : Value) ∧ s = [], fun f v s => v = (.int .i64 s4911.2.1 : Value) ∧ s = [], fun f v s => v = (elemP p4459 (s4911.2.1.toNat * 1) : Value) ∧ s = [], fun f v s => v = (.int .i64 y5046 : Value) ∧ s = [], fun f v s => v = (elemP p4464 (s4911.2.1.toNat * 1) : Value) ∧ s = [], fun f v s => v = undef ∧ ownS encI (s4911.2.2.1.set s4911.2.1.toNat y5046) p4464 c4465 s] : List ((Nat → Value) → Value → Seg → Prop)).getD i (fun _ _ _ => False)) (fun j f v => ∃ s, (fun i => ([fun f v s => v = (.pointer (some ⟨b4457, 0, none⟩) : Value) ∧ s = [], fun f v s => v = (.pointer (some ⟨b4457, 0, none⟩) : Value) ∧ s = [], fun f v s => v = (.pointer (some ⟨b4457, 1, none⟩) : Value) ∧ s = [], fun f v s => v = (.slice p4464 s4911.2.2.1.length c4465 : Value) ∧ s = [], fun f v s => v = (.int .i64 s4911.2.1 : Value) ∧ s = [], fun f v s => v = (.pointer (some ⟨b4457, 0, none⟩) : Value) ∧ s = [], fun f v s => v = (.pointer (some ⟨b4457, 0, none⟩) : Value) ∧ s = [], fun f v s => v = (.pointer (some ⟨b4457, 2, none⟩) : Value) ∧ s = [], fun f v s => v = (.slice p4469 s4911.2.2.2.length c4470 : Value) ∧ s = [], fun f v s => v = (.int .i64 s4911.2.1 : Value) ∧ s = [], fun f v s => v = (.pointer (some ⟨b4457, 0, none⟩) : Value) ∧ s = [], fun f v s => v = (.pointer (some ⟨b4457, 0, none⟩) : Value) ∧ s = [], fun f v s => v = (.pointer (some ⟨b4457, 0, none⟩) : Value) ∧ s = [], fun f v s => v = (.slice p4459 x4455.Memory.length c4460 : Value) ∧ s = [], fun f v s => v = (.int .i64 s4911.2.1 : Value) ∧ s = [], fun f v s => v = (elemP p4459 (s4911.2.1.toNat * 1) : Value) ∧ s = [], fun f v s => v = (.int .i64 y5046 : Value) ∧ s = [], fun f v s => v = (elemP p4464 (s4911.2.1.toNat * 1) : Value) ∧ s = [], fun f v s => v = undef ∧ ownS encI (s4911.2.2.1.set s4911.2.1.toNat y5046) p4464 c4465 s] : List ((Nat → Value) → Value → Seg → Prop)).getD i (fun _ _ _ => False)) j f v s) [] [8, 9, 18] [18] (fun _ _ _ s h => ⟨s, h⟩) (by kernel_rfl) (by kernel_rfl) M5049 (by kernel_rfl) (by kernel_rfl) (by kernel_rfl) (by kernel_rfl) (allOb_cons ?_ (allOb_cons ?_ (allOb_cons ?_ (allOb_cons ?_ (allOb_cons ?_ (allOb_cons ?_ (allOb_cons ?_ (allOb_cons ?_ (allOb_cons ?_ (allOb_cons ?_ (allOb_cons ?_ (allOb_cons ?_ (allOb_cons ?_ (allOb_cons ?_ (allOb_cons ?_ (allOb_cons ?_ (allOb_cons ?_ (allOb_cons ?_ (allOb_cons ?_ allOb_nil))))))))))))))))))) ?_
            · intro g5044 f5045
              intro R w5050 M5051
              refine W_run 1 [(24, .pointer (some ⟨b4457, 0, none⟩))] w5050 (by kernel_rfl) ?_
              exact W_nil (ob_end (.pointer (some ⟨b4457, 0, none⟩)) [] rfl (by kernel_rfl) ⟨by kernel_rfl, rfl⟩ M5051)
            · intro g5044 f5045
              intro v0_ hb0_
              obtain ⟨rfl, _⟩ := hb0_
              intro R w5054 M5055
              refine W_run 1 [(25, .pointer (some ⟨b4457, 0, none⟩))] w5054 (by kernel_rfl) ?_
              exact W_nil (ob_end (.pointer (some ⟨b4457, 0, none⟩)) [] rfl (by kernel_rfl) ⟨by kernel_rfl, rfl⟩ M5055)
            · intro g5044 f5045
              intro v1_ hb1_
              obtain ⟨rfl, _⟩ := hb1_
              intro R w5058 M5059
              refine W_run 1 [(26, .pointer (some ⟨b4457, 1, none⟩))] w5058 (by kernel_rfl) ?_
              exact W_nil (ob_end (.pointer (some ⟨b4457, 1, none⟩)) [] rfl (by kernel_rfl) ⟨by kernel_rfl, rfl⟩ M5059)
            · intro g5044 f5045
              intro v2_ hb2_
              obtain ⟨rfl, _⟩ := hb2_
              intro R w5062 M5063
              refine W_val (.slice p4464 s4911.2.2.1.length c4465) w5062 (by kernel_rfl) (E_load (e := 28) (fr := (0, 0)) _ _ false 1 b4457 1 [.slice p4459 x4455.Memory.length c4460, .slice p4464 s4911.2.2.1.length c4465, .slice p4469 s4911.2.2.2.length c4470] (.slice p4464 s4911.2.2.1.length c4465) rfl (by kernel_rfl) (by kernel_rfl) (by kernel_rfl) (M5063.blk 0 (b := b4457) (o := .cells ⟨[.slice p4459 x4455.Memory.length c4460, .slice p4464 s4911.2.2.1.length c4465, .slice p4469 s4911.2.2.2.length c4470]⟩ 28 (0, 0)) (by kernel_rfl))) ?_
              exact W_nil (ob_end (.slice p4464 s4911.2.2.1.length c4465) [] rfl (by kernel_rfl) ⟨by kernel_rfl, rfl⟩ M5063)
            · intro g5044 f5045
              intro R w5066 M5067
              refine W_run 1 [(28, .int .i64 s4911.2.1)] w5066 (by kernel_rfl) ?_
              exact W_nil (ob_end (.int .i64 s4911.2.1) [] rfl (by kernel_rfl) ⟨by kernel_rfl, rfl⟩ M5067)
            · intro g5044 f5045
              intro R w5070 M5071
              refine W_run 1 [(29, .pointer (some ⟨b4457, 0, none⟩))] w5070 (by kernel_rfl) ?_
              exact W_nil (ob_end (.pointer (some ⟨b4457, 0, none⟩)) [] rfl (by kernel_rfl) ⟨by kernel_rfl, rfl⟩ M5071)
            · intro g5044 f5045
              intro v5_ hb5_
              obtain ⟨rfl, _⟩ := hb5_
              intro R w5074 M5075
              refine W_run 1 [(30, .pointer (some ⟨b4457, 0, none⟩))] w5074 (by kernel_rfl) ?_
              exact W_nil (ob_end (.pointer (some ⟨b4457, 0, none⟩)) [] rfl (by kernel_rfl) ⟨by kernel_rfl, rfl⟩ M5075)
            · intro g5044 f5045
              intro v6_ hb6_
              obtain ⟨rfl, _⟩ := hb6_
              intro R w5078 M5079
              refine W_run 1 [(31, .pointer (some ⟨b4457, 2, none⟩))] w5078 (by kernel_rfl) ?_
              exact W_nil (ob_end (.pointer (some ⟨b4457, 2, none⟩)) [] rfl (by kernel_rfl) ⟨by kernel_rfl, rfl⟩ M5079)
            · intro g5044 f5045
              intro v7_ hb7_
              obtain ⟨rfl, _⟩ := hb7_
              intro R w5082 M5083
              refine W_val (.slice p4469 s4911.2.2.2.length c4470) w5082 (by kernel_rfl) (E_load (e := 28) (fr := (0, 0)) _ _ false 1 b4457 2 [.slice p4459 x4455.Memory.length c4460, .slice p4464 s4911.2.2.1.length c4465, .slice p4469 s4911.2.2.2.length c4470] (.slice p4469 s4911.2.2.2.length c4470) rfl (by kernel_rfl) (by kernel_rfl) (by kernel_rfl) (M5083.blk 0 (b := b4457) (o := .cells ⟨[.slice p4459 x4455.Memory.length c4460, .slice p4464 s4911.2.2.1.length c4465, .slice p4469 s4911.2.2.2.length c4470]⟩ 28 (0, 0)) (by kernel_rfl))) ?_
              exact W_nil (ob_end (.slice p4469 s4911.2.2.2.length c4470) [] rfl (by kernel_rfl) ⟨by kernel_rfl, rfl⟩ M5083)
            · intro g5044 f5045
              intro R w5086 M5087
              refine W_run 1 [(33, .int .i64 s4911.2.1)] w5086 (by kernel_rfl) ?_
              exact W_nil (ob_end (.int .i64 s4911.2.1) [] rfl (by kernel_rfl) ⟨by kernel_rfl, rfl⟩ M5087)
            · intro g5044 f5045
              intro R w5090 M5091
              refine W_run 1 [(34, .pointer (some ⟨b4457, 0, none⟩))] w5090 (by kernel_rfl) ?_
              exact W_nil (ob_end (.pointer (some ⟨b4457, 0, none⟩)) [] rfl (by kernel_rfl) ⟨by kernel_rfl, rfl⟩ M5091)
            · intro g5044 f5045
              intro v10_ hb10_
              obtain ⟨rfl, _⟩ := hb10_
              intro R w5094 M5095
              refine W_run 1 [(35, .pointer (some ⟨b4457, 0, none⟩))] w5094 (by kernel_rfl) ?_
              exact W_nil (ob_end (.pointer (some ⟨b4457, 0, none⟩)) [] rfl (by kernel_rfl) ⟨by kernel_rfl, rfl⟩ M5095)
            · intro g5044 f5045
              intro v11_ hb11_
              obtain ⟨rfl, _⟩ := hb11_
              intro R w5098 M5099
              refine W_run 1 [(36, .pointer (some ⟨b4457, 0, none⟩))] w5098 (by kernel_rfl) ?_
              exact W_nil (ob_end (.pointer (some ⟨b4457, 0, none⟩)) [] rfl (by kernel_rfl) ⟨by kernel_rfl, rfl⟩ M5099)
            · intro g5044 f5045
              intro v12_ hb12_
              obtain ⟨rfl, _⟩ := hb12_
              intro R w5102 M5103
              refine W_val (.slice p4459 x4455.Memory.length c4460) w5102 (by kernel_rfl) (E_load (e := 28) (fr := (0, 0)) _ _ false 1 b4457 0 [.slice p4459 x4455.Memory.length c4460, .slice p4464 s4911.2.2.1.length c4465, .slice p4469 s4911.2.2.2.length c4470] (.slice p4459 x4455.Memory.length c4460) rfl (by kernel_rfl) (by kernel_rfl) (by kernel_rfl) (M5103.blk 0 (b := b4457) (o := .cells ⟨[.slice p4459 x4455.Memory.length c4460, .slice p4464 s4911.2.2.1.length c4465, .slice p4469 s4911.2.2.2.length c4470]⟩ 28 (0, 0)) (by kernel_rfl))) ?_
              exact W_nil (ob_end (.slice p4459 x4455.Memory.length c4460) [] rfl (by kernel_rfl) ⟨by kernel_rfl, rfl⟩ M5103)
            · intro g5044 f5045
              intro R w5106 M5107
              refine W_run 1 [(38, .int .i64 s4911.2.1)] w5106 (by kernel_rfl) ?_
              exact W_nil (ob_end (.int .i64 s4911.2.1) [] rfl (by kernel_rfl) ⟨by kernel_rfl, rfl⟩ M5107)
            · intro g5044 f5045
              intro v13_ hb13_
              obtain ⟨rfl, _⟩ := hb13_
              intro v14_ hb14_
              obtain ⟨rfl, _⟩ := hb14_
              intro R w5110 M5111
              refine W_val (elemP p4459 (s4911.2.1.toNat * 1)) w5110 (by kernel_rfl) (E_index (E := encI) _ _ _ x4455.Memory.length c4460 .i64 s4911.2.1 1 (y := y5046) rfl (by kernel_rfl) (by kernel_rfl) (by kernel_rfl) (ho4462.rd M5111 1 (by kernel_rfl)) rfl hy5046) ?_
              exact W_nil (ob_end (elemP p4459 (s4911.2.1.toNat * 1)) [] rfl (by kernel_rfl) ⟨by kernel_rfl, rfl⟩ M5111)
            · intro g5044 f5045
              intro v15_ hb15_
              obtain ⟨rfl, _⟩ := hb15_
              intro R w5114 M5115
              refine W_val (.int .i64 y5046) w5114 (by kernel_rfl) (E_loadE (E := encI) _ _ false 1 s4911.2.1 0 (s4911.2.1.toNat * 1) y5046 (.int .i64 y5046) rfl (by kernel_rfl) (by kernel_rfl) (by kernel_rfl) (ho4462.rd M5115 1 (by kernel_rfl)) hy5046 rfl) ?_
              exact W_nil (ob_end (.int .i64 y5046) [] rfl (by kernel_rfl) ⟨by kernel_rfl, rfl⟩ M5115)
            · intro g5044 f5045
              intro v3_ hb3_
              obtain ⟨rfl, _⟩ := hb3_
              intro v4_ hb4_
              obtain ⟨rfl, _⟩ := hb4_
              intro R w5118 M5119
              refine W_val (elemP p4464 (s4911.2.1.toNat * 1)) w5118 (by kernel_rfl) (E_index (E := encI) _ _ _ s4911.2.2.1.length c4465 .i64 s4911.2.1 1 (y := y5047) rfl (by kernel_rfl) (by kernel_rfl) (by kernel_rfl) (ho4922.rd M5119 4 (by kernel_rfl)) rfl hy5047) ?_
              exact W_nil (ob_end (elemP p4464 (s4911.2.1.toNat * 1)) [] rfl (by kernel_rfl) ⟨by kernel_rfl, rfl⟩ M5119)
            · intro g5044 f5045
              intro v16_ hb16_
              obtain ⟨rfl, _⟩ := hb16_
              intro v17_ hb17_
              obtain ⟨rfl, _⟩ := hb17_
              intro R w5122 M5123
              refine W_storeE (E := encI) _ _ _ false 1 s4911.2.1.toNat 0 (s4911.2.1.toNat * 1) y5047 y5046 (.int .i64 y5046) 3 M5123 ho4922 (by kernel_rfl) (by kernel_rfl) rfl (by kernel_rfl) (by kernel_rfl) (by kernel_rfl) (by kernel_rfl) (by kernel_rfl) (by kernel_rfl) (by kernel_rfl) (gxIdx_spec hy5047).2 rfl ?_
              intro w5124 sg5126 ho5127 M5125
              exact W_nil (ob_none sg5126 rfl ⟨rfl, ho5127⟩ M5125)
            · intro g5044 f5045
              intro v8_ hb8_
              obtain ⟨rfl, _⟩ := hb8_
              intro v9_ hb9_
              obtain ⟨rfl, _⟩ := hb9_
              intro v18_ hb18_
              obtain ⟨rfl, ho5048⟩ := hb18_
              intro w5128 M5129
              have M5130 : Mem (idsOf [[(b4457, .cells ⟨[.slice p4459 x4455.Memory.length c4460, .slice p4464 x4455.Copy.length c4465, .slice p4469 x4455.Dirty.length c4470]⟩ 28 (0, 0))], sg4461, sg4466, sg4471]) w w5128 [[(b4457, .cells ⟨[.slice p4459 x4455.Memory.length c4460, .slice p4464 s4911.2.2.1.length c4465, .slice p4469 s4911.2.2.2.length c4470]⟩ 28 (0, 0))], sg4461, sg4923, (g5044 18)] := M5129
              have M5131 : Mem (idsOf [[(b4457, .cells ⟨[.slice p4459 x4455.Memory.length c4460, .slice p4464 x4455.Copy.length c4465, .slice p4469 x4455.Dirty.length c4470]⟩ 28 (0, 0))], sg4461, sg4466, sg4471]) w w5128 [[(b4457, .cells ⟨[.slice p4459 x4455.Memory.length c4460, .slice p4464 (s4911.2.2.1.set s4911.2.1.toNat y5046).length c4465, .slice p4469 s4911.2.2.2.length c4470]⟩ 28 (0, 0))], sg4461, sg4923, (g5044 18)] := by rw [@List.length_set _ s4911.2.2.1 s4911.2.1.toNat y5046]; exact M5130
              obtain ⟨y5132, hy5132, hm⟩ := gx_bind hm
              refine W_val (elemP p4469 (s4911.2.1.toNat * 1)) w5128 (by kernel_rfl) (E_index (E := encB) _ _ _ s4911.2.2.2.length c4470 .i64 s4911.2.1 1 (y := y5132) rfl (by kernel_rfl) (by kernel_rfl) (by kernel_rfl) (ho4924.rd M5131 2 (by kernel_rfl)) rfl hy5132) ?_
              refine W_storeE (E := encB) _ _ _ false 1 s4911.2.1.toNat 0 (s4911.2.1.toNat * 1) y5132 false (.bool false) 2 M5131 ho4924 (by kernel_rfl) (by kernel_rfl) rfl (by kernel_rfl) (by kernel_rfl) (by kernel_rfl) (by kernel_rfl) (by kernel_rfl) (by kernel_rfl) (by kernel_rfl) (gxIdx_spec hy5132).2 rfl ?_
              intro w5133 sg5135 ho5136 M5134
              refine W_conv 11 (.slice p4469 s4911.2.2.2.length c4470) (.slice p4469 (s4911.2.2.2.set s4911.2.1.toNat false).length c4470) (by kernel_rfl) (by rw [@List.length_set _ s4911.2.2.2 s4911.2.1.toNat false]) ?_
              refine W_conv 32 (.slice p4469 s4911.2.2.2.length c4470) (.slice p4469 (s4911.2.2.2.set s4911.2.1.toNat false).length c4470) (by kernel_rfl) (by rw [@List.length_set _ s4911.2.2.2 s4911.2.1.toNat false]) ?_
              have M5137 : Mem (idsOf [[(b4457, .cells ⟨[.slice p4459 x4455.Memory.length c4460, .slice p4464 x4455.Copy.length c4465, .slice p4469 x4455.Dirty.length c4470]⟩ 28 (0, 0))], sg4461, sg4466, sg4471]) w w5133 [[(b4457, .cells ⟨[.slice p4459 x4455.Memory.length c4460, .slice p4464 (s4911.2.2.1.set s4911.2.1.toNat y5046).length c4465, .slice p4469 (s4911.2.2.2.set s4911.2.1.toNat false).length c4470]⟩ 28 (0, 0))], sg4461, sg5135, (g5044 18)] := by rw [@List.length_set _ s4911.2.2.2 s4911.2.1.toNat false]; exact M5134
              refine W_nil ?_
              refine N_then ?_
              refine G_region ?_
              refine W_run 3 [(0, .pointer (some ⟨b4457, 0, none⟩)), (1, .int .i64 x4473), (5, .int .i64 (w64 (s4911.1 + 1))), (11, .slice p4469 (s4911.2.2.2.set s4911.2.1.toNat false).length c4470), (12, .int .i64 (x4455.Dirty.length : Int)), (13, .int .i64 s4911.2.1)] w5133 (by kernel_rfl) ?_
              refine W_nil ?_
              obtain rfl := Option.some.inj hm
              exact N_meet fun a ha => ⟨(g5044 18), sg5135, ho5048, ho5136, M5137.pick [0, 1, 3, 2] (by kernel_rfl), ha.sub (by kernel_rfl)⟩
          · refine G_cond_f (b := o4933) hc5043 (by kernel_rfl) ?_
            refine G_skip ?_
            obtain rfl := Option.some.inj hm
            exact N_meet fun a ha => ⟨sg4921, sg4923, ho4922, ho4924, M4938.pick [0, 1, 2, 3] (by kernel_rfl), ha.sub (by kernel_rfl)⟩
        · intro a5140 w5138 ⟨sg5039, sg5041, ho5040, ho5042, M5139, hS5141⟩
          refine N_use hS5141 ?_
          have hm := hm5038
          refine N_block ?_
          refine N_then ?_
          refine G_region ?_
          refine W_run 2 [(0, .pointer (some ⟨b4457, 0, none⟩)), (1, .int .i64 x4473), (5, .int .i64 o5036.1), (11, .slice p4469 o5036.2.2.length c4470), (12, .int .i64 (x4455.Dirty.length : Int)), (13, .int .i64 (w64 (s4911.2.1 + 1)))] w5138 (by kernel_rfl) ?_
          refine W_nil ?_
          obtain rfl := Option.some.inj hm
          exact N_loop fun a ha => ⟨_, rfl, sg5039, sg5041, ho5040, ho5042, M5139.pick [0, 1, 2, 3] (by kernel_rfl), ha.sub (by kernel_rfl)⟩
    · refine G_cond_f (b := (decide (s4911.2.1 < (x4455.Dirty.length : Int)))) hc4930 (by kernel_rfl) ?_
      refine G_exit ?_
      refine N_then_exit ?_
      refine N_then_exit ?_
      refine N_block_eq ?_
      obtain rfl := Option.some.inj hm
      obtain rfl := hout4913 _ rfl
      exact N_meet fun a ha => ⟨sg4921, sg4923, ho4922, ho4924, M4916.pick [0, 1, 2, 3] (by kernel_rfl), ha.sub (by kernel_rfl)⟩
  · intro a5142 w5143 ⟨sg4926, sg4928, ho4927, ho4929, M5144, hS5145⟩
    refine N_use hS5145 ?_
    have hm := hmo4920
    refine N_then ?_
    refine G_seq ?_
    refine G_region ?_
    refine W_run 2 [(4, .int .i64 out4918.1)] w5143 (by kernel_rfl) ?_
    refine W_nil ?_
    refine N_then ?_
    refine G_ret ?_
    obtain rfl := Option.some.inj hm
    refine N_ret [.int .i64 out4918.1] (RVs_cons (RV_tmp (by kernel_rfl)) RVs_nil) ?_
    exact ⟨p4459, c4460, sg4461, p4464, c4465, sg4926, p4469, c4470, sg4928, rfl, ho4462, ho4927, ho4929, M5144.pick [0, 1, 2, 3] (by kernel_rfl)⟩
theorem c_i_CopyRound (w : World) (x4013 : Copying) (p4015 : Option Addr) (c4016 : Nat) (h4017 : rdS encI w x4013.Memory p4015 c4016) (p4019 : Option Addr) (c4020 : Nat) (h4021 : rdS encI w x4013.Copy p4019 c4020) (p4023 : Option Addr) (c4024 : Nat) (h4025 : rdS encB w x4013.Dirty p4023 c4024) (x4026 : Int) {r : Copying × Int × Bool} (hm : M.i_CopyRound x4013 x4026 = some r) :
    Calls Try.prog 34 #[.agg #[.slice p4015 x4013.Memory.length c4016, .slice p4019 x4013.Copy.length c4020, .slice p4023 x4013.Dirty.length c4024], .int .i64 x4026] w fun e w' => ∃ (p4028 : Option Addr) (c4029 : Nat) (sg4030 : Seg), ∃ (p4032 : Option Addr) (c4033 : Nat) (sg4034 : Seg), ∃ (p4036 : Option Addr) (c4037 : Nat) (sg4038 : Seg), e = .returned (.tuple #[.agg #[.slice p4028 r.1.Memory.length c4029, .slice p4032 r.1.Copy.length c4033, .slice p4036 r.1.Dirty.length c4037], .int .i64 r.2.1, .bool r.2.2]) ∧ ownS encI r.1.Memory p4028 c4029 sg4030 ∧ ownS encI r.1.Copy p4032 c4033 sg4034 ∧ ownS encB r.1.Dirty p4036 c4037 sg4038 ∧ Mem [] w w' [sg4030, sg4034, sg4038] := by
  unfold M.i_CopyRound at hm
  refine C_enter Try.func34 rfl (by kernel_rfl) ?_
  have M0 := Mem.refl [] w
  refine G_seq ?_
  refine G_region ?_
  refine W_new (fun b => .pointer (some ⟨b, 0, none⟩)) (.cells ⟨[.slice p4015 x4013.Memory.length c4016, .slice p4019 x4013.Copy.length c4020, .slice p4023 x4013.Dirty.length c4024]⟩ 28 (0, 0)) M0 rfl (by kernel_rfl) (by kernel_rfl) ?_
  intro b4040 w4041 M4042
  refine W_new (fun b => .pointer (some ⟨b, 0, none⟩)) (.cells ⟨[.slice none 0 0, .slice none 0 0, .slice none 0 0]⟩ 28 (0, 0)) M4042 rfl (by kernel_rfl) (by kernel_rfl) ?_
  intro b4047 w4048 M4049
  refine W_run 2 [(1, .int .i64 x4026), (2, .pointer (some ⟨b4040, 0, none⟩)), (4, .pointer (some ⟨b4047, 0, none⟩))] w4048 (by kernel_rfl) ?_
  refine W_nil ?_
  refine N_then ?_
  refine G_seq ?_
  refine G_seq ?_
  obtain ⟨o4271, ho4272, hm4273⟩ := gx_bind hm
  refine G_meet (fun a w' => Mem [] w w' [[(b4040, .cells ⟨[.slice p4015 x4013.Memory.length c4016, .slice p4019 x4013.Copy.length c4020, .slice p4023 x4013.Dirty.length c4024]⟩ 28 (0, 0))], [(b4047, .cells ⟨[.slice none 0 0, .slice none 0 0, .slice none 0 0]⟩ 28 (0, 0))]] ∧ Sat Try.f34.ntmps [(1, .int .i64 x4026), (2, .pointer (some ⟨b4040, 0, none⟩)), (4, .pointer (some ⟨b4047, 0, none⟩)), (16, .bool o4271)] a) ?_ ?_
  · have hm := ho4272
    refine G_region ?_
    refine W_val (.agg #[.slice p4015 x4013.Memory.length c4016, .slice p4019 x4013.Copy.length c4020, .slice p4023 x4013.Dirty.length c4024]) w4048 (by kernel_rfl) (E_load (e := 28) (fr := (0, 0)) _ _ true 3 b4040 0 [.slice p4015 x4013.Memory.length c4016, .slice p4019 x4013.Copy.length c4020, .slice p4023 x4013.Dirty.length c4024] (.agg #[.slice p4015 x4013.Memory.length c4016, .slice p4019 x4013.Copy.length c4020, .slice p4023 x4013.Dirty.length c4024]) rfl (by kernel_rfl) (by kernel_rfl) (by kernel_rfl) (M4049.blk 0 (b := b4040) (o := .cells ⟨[.slice p4015 x4013.Memory.length c4016, .slice p4019 x4013.Copy.length c4020, .slice p4023 x4013.Dirty.length c4024]⟩ 28 (0, 0)) (by kernel_rfl))) ?_
    obtain ⟨r4274, hr4274, hm⟩ := gx_bind hm
    refine W_call 16 #[.agg #[.slice p4015 x4013.Memory.length c4016, .slice p4019 x4013.Copy.length c4020, .slice p4023 x4013.Dirty.length c4024]] (by kernel_rfl) (by kernel_rfl) ?_
    refine (c_i_IsCopying w4048 x4013 p4015 c4016 (h4017.mem0 M4049) p4019 c4020 (h4021.mem0 M4049) p4023 c4024 (h4025.mem0 M4049) hr4274).mono ?_
    rintro e_ w4275 ⟨rfl, K4276⟩
    have M4277 := M4049.call0 K4276
    refine ⟨_, rfl, ?_⟩
    refine W_run 2 [(1, .int .i64 x4026), (2, .pointer (some ⟨b4040, 0, none⟩)), (4, .pointer (some ⟨b4047, 0, none⟩)), (12, .bool (!r4274))] w4275 (by kernel_rfl) ?_
    rcases gx_bif hm with ⟨hc4278, hm⟩ | ⟨hc4278, hm⟩
    · refine W_known 12 true (by kernel_rfl) hc4278 ?_
      refine W_run 4 [(1, .int .i64 x4026), (2, .pointer (some ⟨b4040, 0, none⟩)), (4, .pointer (some ⟨b4047, 0, none⟩)), (16, .bool true)] w4275 (by kernel_rfl) ?_
      refine W_nil ?_
      obtain rfl := Option.some.inj hm
      exact N_meet fun a ha => ⟨M4277.pick [0, 1] (by kernel_rfl), ha.sub (by kernel_rfl)⟩
    · refine W_known 12 false (by kernel_rfl) hc4278 ?_
      refine W_run 1 [(1, .int .i64 x4026), (2, .pointer (some ⟨b4040, 0, none⟩)), (4, .pointer (some ⟨b4047, 0, none⟩)), (12, .bool false), (13, .int .i64 x4026)] w4275 (by kernel_rfl) ?_
      obtain ⟨r4279, hr4279, hm⟩ := gx_bind hm
      refine W_call 74 #[.int .i64 x4026, .int .i64 0, .int .i64 12] (by kernel_rfl) (by kernel_rfl) ?_
      refine (c_i_inside w4275 x4026 0 12 hr4279).mono ?_
      rintro e_ w4280 ⟨rfl, K4281⟩
      have M4282 := M4277.call0 K4281
      refine ⟨_, rfl, ?_⟩
      refine W_run 2 [(1, .int .i64 x4026), (2, .pointer (some ⟨b4040, 0, none⟩)), (4, .pointer (some ⟨b4047, 0, none⟩)), (16, .bool (!r4279))] w4280 (by kernel_rfl) ?_
      refine W_nil ?_
      obtain rfl := Option.some.inj hm
      exact N_meet fun a ha => ⟨M4282.pick [0, 1] (by kernel_rfl), ha.sub (by kernel_rfl)⟩
  · intro a4285 w4283 ⟨M4284, hS4286⟩
    refine N_use hS4286 ?_
    have hm := hm4273
    refine N_then ?_
    rcases gx_bif hm with ⟨hc4287, hm⟩ | ⟨hc4287, hm⟩
    · refine G_cond_t (b := o4271) hc4287 (by kernel_rfl) ?_
      refine G_seq ?_
      refine G_region ?_
      refine W_run 1 [(4, .pointer (some ⟨b4047, 0, none⟩)), (17, .agg #[.slice none 0 0, .slice none 0 0, .slice none 0 0])] w4283 (by kernel_rfl) ?_
      refine W_store _ _ _ true 3 b4047 0 [.slice none 0 0, .slice none 0 0, .slice none 0 0] 28 (.agg #[.slice none 0 0, .slice none 0 0, .slice none 0 0]) 1 [.slice none 0 0, .slice none 0 0, .slice none 0 0] M4284 (by kernel_rfl) rfl (by kernel_rfl) (by kernel_rfl) (by kernel_rfl) (by kernel_rfl) (by kernel_rfl) (by kernel_rfl) (by kernel_rfl) (by kernel_rfl) ?_
      intro w4291 M4292
      refine W_run 2 [(4, .pointer (some ⟨b4047, 0, none⟩)), (5, .int .i64 0), (6, .bool false)] w4291 (by kernel_rfl) ?_
      refine W_nil ?_
      refine N_then ?_
      refine G_ret ?_
      refine N_then_ret ?_
      obtain rfl := Option.some.inj hm
      refine N_ret [.agg #[.slice none 0 0, .slice none 0 0, .slice none 0 0], .int .i64 0, .bool false] (RVs_cons (RV_cell (g := true) (k := 3) (b := b4047) (off := 0) (cs := [.slice none 0 0, .slice none 0 0, .slice none 0 0]) (e := 28) (fr := (0, 0)) (v := .agg #[.slice none 0 0, .slice none 0 0, .slice none 0 0]) (M4292.blk 1 (b := b4047) (o := .cells ⟨[.slice none 0 0, .slice none 0 0, .slice none 0 0]⟩ 28 (0, 0)) (by kernel_rfl)) (by kernel_rfl) (by kernel_rfl) (by kernel_rfl)) (RVs_cons (RV_tmp (by kernel_rfl)) (RVs_cons (RV_tmp (by kernel_rfl)) RVs_nil))) ?_
      exact ⟨none, 0, [], none, 0, [], none, 0, [], rfl, ownS_nil, ownS_nil, ownS_nil, M4292.pick [100000, 100001, 100002] (by kernel_rfl)⟩
    · refine G_cond_f (b := o4271) hc4287 (by kernel_rfl) ?_
      refine G_skip ?_
      refine N_then ?_
      refine G_seq ?_
      refine G_region ?_
      refine W_val (.agg #[.slice p4015 x4013.Memory.length c4016, .slice p4019 x4013.Copy.length c4020, .slice p4023 x4013.Dirty.length c4024]) w4283 (by kernel_rfl) (E_load (e := 28) (fr := (0, 0)) _ _ true 3 b4040 0 [.slice p4015 x4013.Memory.length c4016, .slice p4019 x4013.Copy.length c4020, .slice p4023 x4013.Dirty.length c4024] (.agg #[.slice p4015 x4013.Memory.length c4016, .slice p4019 x4013.Copy.length c4020, .slice p4023 x4013.Dirty.length c4024]) rfl (by kernel_rfl) (by kernel_rfl) (by kernel_rfl) (M4284.blk 0 (b := b4040) (o := .cells ⟨[.slice p4015 x4013.Memory.length c4016, .slice p4019 x4013.Copy.length c4020, .slice p4023 x4013.Dirty.length c4024]⟩ 28 (0, 0)) (by kernel_rfl))) ?_
      obtain ⟨r4427, hr4427, hm⟩ := gx_bind hm
      refine W_call 71 #[.agg #[.slice p4015 x4013.Memory.length c4016, .slice p4019 x4013.Copy.length c4020, .slice p4023 x4013.Dirty.length c4024]] (by kernel_rfl) (by kernel_rfl) ?_
      refine (c_i_newCopying w4283 x4013 p4015 c4016 (h4017.mem0 M4284) p4019 c4020 (h4021.mem0 M4284) p4023 c4024 (h4025.mem0 M4284) hr4427).mono ?_
      rintro e_ w4443 ⟨p4429, c4430, sg4431, p4434, c4435, sg4436, p4439, c4440, sg4441, rfl, ho4432, ho4437, ho4442, K4444⟩
      have M4445 := M4284.call K4444
      refine ⟨_, rfl, ?_⟩
      refine W_new (fun b => .pointer (some ⟨b, 0, none⟩)) (.cells ⟨[.slice none 0 0, .slice none 0 0, .slice none 0 0]⟩ 28 (0, 0)) M4445 rfl (by kernel_rfl) (by kernel_rfl) ?_
      intro b4450 w4451 M4452
      refine W_store _ _ _ true 3 b4450 0 [.slice none 0 0, .slice none 0 0, .slice none 0 0] 28 (.agg #[.slice p4429 r4427.Memory.length c4430, .slice p4434 r4427.Copy.length c4435, .slice p4439 r4427.Dirty.length c4440]) 5 [.slice p4429 r4427.Memory.length c4430, .slice p4434 r4427.Copy.length c4435, .slice p4439 r4427.Dirty.length c4440] M4452 (by kernel_rfl) rfl (by kernel_rfl) (by kernel_rfl) (by kernel_rfl) (by kernel_rfl) (by kernel_rfl) (by kernel_rfl) (by kernel_rfl) (by kernel_rfl) ?_
      intro w4453 M4454
      refine W_nil ?_
      refine N_then ?_
      refine G_seq ?_
      refine G_region ?_
      refine W_run 1 [(4, .pointer (some ⟨b4047, 0, none⟩)), (7, .pointer (some ⟨b4450, 0, none⟩)), (20, .int .i64 x4026)] w4453 (by kernel_rfl) ?_
      obtain ⟨r5146, hr5146, hm⟩ := gx_bind hm
      refine W_call 75 #[.pointer (some ⟨b4450, 0, none⟩), .int .i64 x4026] (by kernel_rfl) (by kernel_rfl) ?_
      refine (c_i_Copying_round w4453 r4427 p4429 c4430 sg4431 ho4432 p4434 c4435 sg4436 ho4437 p4439 c4440 sg4441 ho4442 b4450 x4026 (M4454.hasPick [5, 2, 3, 4]) (M4454.nodupPick [5, 2, 3, 4] (by kernel_rfl)) hr5146).mono ?_
      rintro e_ w5162 ⟨p5148, c5149, sg5150, p5153, c5154, sg5155, p5158, c5159, sg5160, rfl, ho5151, ho5156, ho5161, K5163⟩
      have M5164 := M4454.callF' [5, 2, 3, 4] [0, 1] (by kernel_rfl) K5163
      refine ⟨_, rfl, ?_⟩
      refine W_run 1 [(4, .pointer (some ⟨b4047, 0, none⟩)), (7, .pointer (some ⟨b4450, 0, none⟩)), (8, .int .i64 r5146.1)] w5162 (by kernel_rfl) ?_
      refine W_nil ?_
      refine N_then ?_
      refine G_seq ?_
      refine G_region ?_
      refine W_val (.agg #[.slice p5148 r5146.2.1.length c5149, .slice p5153 r5146.2.2.1.length c5154, .slice p5158 r5146.2.2.2.length c5159]) w5162 (by kernel_rfl) (E_load (e := 28) (fr := (0, 0)) _ _ true 3 b4450 0 [.slice p5148 r5146.2.1.length c5149, .slice p5153 r5146.2.2.1.length c5154, .slice p5158 r5146.2.2.2.length c5159] (.agg #[.slice p5148 r5146.2.1.length c5149, .slice p5153 r5146.2.2.1.length c5154, .slice p5158 r5146.2.2.2.length c5159]) rfl (by kernel_rfl) (by kernel_rfl) (by kernel_rfl) (M5164.blk 2 (b := b4450) (o := .cells ⟨[.slice p5148 r5146.2.1.length c5149, .slice p5153 r5146.2.2.1.length c5154, .slice p5158 r5146.2.2.2.length c5159]⟩ 28 (0, 0)) (by kernel_rfl))) ?_
      refine W_run 1 [(4, .pointer (some ⟨b4047, 0, none⟩)), (22, .agg #[.slice p5148 r5146.2.1.length c5149, .slice p5153 r5146.2.2.1.length c5154, .slice p5158 r5146.2.2.2.length c5159]), (23, .int .i64 r5146.1)] w5162 (by kernel_rfl) ?_
      refine W_store _ _ _ true 3 b4047 0 [.slice none 0 0, .slice none 0 0, .slice none 0 0] 28 (.agg #[.slice p5148 r5146.2.1.length c5149, .slice p5153 r5146.2.2.1.length c5154, .slice p5158 r5146.2.2.2.length c5159]) 1 [.slice p5148 r5146.2.1.length c5149, .slice p5153 r5146.2.2.1.length c5154, .slice p5158 r5146.2.2.2.length c5159] M5164 (by kernel_rfl) rfl (by kernel_rfl) (by kernel_rfl) (by kernel_rfl) (by kernel_rfl) (by kernel_rfl) (by kernel_rfl) (by kernel_rfl) (by kernel_rfl) ?_
      intro w5165 M5166
      refine W_run 2 [(4, .pointer (some ⟨b4047, 0, none⟩)), (5, .int .i64 r5146.1), (6, .bool true)] w5165 (by kernel_rfl) ?_
      refine W_nil ?_
      refine N_then ?_
      refine G_ret ?_
      obtain rfl := Option.some.inj hm
      refine N_ret [.agg #[.slice p5148 r5146.2.1.length c5149, .slice p5153 r5146.2.2.1.length c5154, .slice p5158 r5146.2.2.2.length c5159], .int .i64 r5146.1, .bool true] (RVs_cons (RV_cell (g := true) (k := 3) (b := b4047) (off := 0) (cs := [.slice p5148 r5146.2.1.length c5149, .slice p5153 r5146.2.2.1.length c5154, .slice p5158 r5146.2.2.2.length c5159]) (e := 28) (fr := (0, 0)) (v := .agg #[.slice p5148 r5146.2.1.length c5149, .slice p5153 r5146.2.2.1.length c5154, .slice p5158 r5146.2.2.2.length c5159]) (M5166.blk 1 (b := b4047) (o := .cells ⟨[.slice p5148 r5146.2.1.length c5149, .slice p5153 r5146.2.2.1.length c5154, .slice p5158 r5146.2.2.2.length c5159]⟩ 28 (0, 0)) (by kernel_rfl)) (by kernel_rfl) (by kernel_rfl) (by kernel_rfl)) (RVs_cons (RV_tmp (by kernel_rfl)) (RVs_cons (RV_tmp (by kernel_rfl)) RVs_nil))) ?_
      exact ⟨p5148, c5149, sg5150, p5153, c5154, sg5155, p5158, c5159, sg5160, rfl, ho5151, ho5156, ho5161, M5166.pick [3, 4, 5] (by kernel_rfl)⟩
theorem c_s_l19Good (w : World) (x5232 : Copying) (p5234 : Option Addr) (c5235 : Nat) (h5236 : rdS encI w x5232.Memory p5234 c5235) (p5238 : Option Addr) (c5239 : Nat) (h5240 : rdS encI w x5232.Copy p5238 c5239) (p5242 : Option Addr) (c5243 : Nat) (h5244 : rdS encB w x5232.Dirty p5242 c5243) {r : Bool} (hm : M.s_l19Good x5232 = some r) :
    Calls Try.prog 56 #[.agg #[.slice p5234 x5232.Memory.length c5235, .slice p5238 x5232.Copy.length c5239, .slice p5242 x5232.Dirty.length c5243]] w fun e w' => e = .returned (.bool r) ∧ Mem [] w w' [] := by
  unfold M.s_l19Good at hm
  refine C_enter Try.func56 rfl (by kernel_rfl) ?_
  have M0 := Mem.refl [] w
  refine G_seq ?_
  refine G_region ?_
  refine W_new (fun b => .pointer (some ⟨b, 0, none⟩)) (.cells ⟨[.slice p5234 x5232.Memory.length c5235, .slice p5238 x5232.Copy.length c5239, .slice p5242 x5232.Dirty.length c5243]⟩ 28 (0, 0)) M0 rfl (by kernel_rfl) (by kernel_rfl) ?_
  intro b5246 w5247 M5248
  refine W_run 1 [(1, .pointer (some ⟨b5246, 0, none⟩))] w5247 (by kernel_rfl) ?_
  refine W_nil ?_
  refine N_then ?_
  refine G_seq ?_
  refine G_seq ?_
  obtain ⟨o5260, ho5261, hm5262⟩ := gx_bind hm
  refine G_meet (fun a w' => Mem [] w w' [[(b5246, .cells ⟨[.slice p5234 x5232.Memory.length c5235, .slice p5238 x5232.Copy.length c5239, .slice p5242 x5232.Dirty.length c5243]⟩ 28 (0, 0))]] ∧ Sat Try.f56.ntmps [(1, .pointer (some ⟨b5246, 0, none⟩)), (31, .bool o5260)] a) ?_ ?_
  · have hm := ho5261
    refine G_region ?_
    refine W_run 1 [(1, .pointer (some ⟨b5246, 0, none⟩)), (4, .pointer (some ⟨b5246, 0, none⟩))] w5247 (by kernel_rfl) ?_
    refine W_val (.slice p5234 x5232.Memory.length c5235) w5247 (by kernel_rfl) (E_load (e := 28) (fr := (0, 0)) _ _ false 1 b5246 0 [.slice p5234 x5232.Memory.length c5235, .slice p5238 x5232.Copy.length c5239, .slice p5242 x5232.Dirty.length c5243] (.slice p5234 x5232.Memory.length c5235) rfl (by kernel_rfl) (by kernel_rfl) (by kernel_rfl) (M5248.blk 0 (b := b5246) (o := .cells ⟨[.slice p5234 x5232.Memory.length c5235, .slice p5238 x5232.Copy.length c5239, .slice p5242 x5232.Dirty.length c5243]⟩ 28 (0, 0)) (by kernel_rfl))) ?_
    obtain ⟨r5263, hr5263, hm⟩ := gx_bind hm
    refine W_call 60 #[.slice p5234 x5232.Memory.length c5235] (by kernel_rfl) (by kernel_rfl) ?_
    refine (c_s_l19Memory w5247 x5232.Memory p5234 c5235 (h5236.mem0 M5248) hr5263).mono ?_
    rintro e_ w5264 ⟨rfl, K5265⟩
    have M5266 := M5248.call0 K5265
    refine ⟨_, rfl, ?_⟩
    refine W_run 2 [(1, .pointer (some ⟨b5246, 0, none⟩)), (8, .bool (!r5263))] w5264 (by kernel_rfl) ?_
    rcases gx_bif hm with ⟨hc5267, hm⟩ | ⟨hc5267, hm⟩
    · refine W_known 8 true (by kernel_rfl) hc5267 ?_
      refine W_run 23 [(1, .pointer (some ⟨b5246, 0, none⟩)), (31, .bool true)] w5264 (by kernel_rfl) ?_
      refine W_nil ?_
      obtain rfl := Option.some.inj hm
      exact N_meet fun a ha => ⟨M5266.pick [0] (by kernel_rfl), ha.sub (by kernel_rfl)⟩
    · refine W_known 8 false (by kernel_rfl) hc5267 ?_
      refine W_run 1 [(1, .pointer (some ⟨b5246, 0, none⟩)), (8, .bool false), (9, .pointer (some ⟨b5246, 1, none⟩))] w5264 (by kernel_rfl) ?_
      refine W_val (.slice p5238 x5232.Copy.length c5239) w5264 (by kernel_rfl) (E_load (e := 28) (fr := (0, 0)) _ _ false 1 b5246 1 [.slice p5234 x5232.Memory.length c5235, .slice p5238 x5232.Copy.length c5239, .slice p5242 x5232.Dirty.length c5243] (.slice p5238 x5232.Copy.length c5239) rfl (by kernel_rfl) (by kernel_rfl) (by kernel_rfl) (M5266.blk 0 (b := b5246) (o := .cells ⟨[.slice p5234 x5232.Memory.length c5235, .slice p5238 x5232.Copy.length c5239, .slice p5242 x5232.Dirty.length c5243]⟩ 28 (0, 0)) (by kernel_rfl))) ?_
      obtain ⟨r5268, hr5268, hm⟩ := gx_bind hm
      refine W_call 60 #[.slice p5238 x5232.Copy.length c5239] (by kernel_rfl) (by kernel_rfl) ?_
      refine (c_s_l19Memory w5264 x5232.Copy p5238 c5239 (h5240.mem0 M5266) hr5268).mono ?_
      rintro e_ w5269 ⟨rfl, K5270⟩
      have M5271 := M5266.call0 K5270
      refine ⟨_, rfl, ?_⟩
      refine W_run 3 [(1, .pointer (some ⟨b5246, 0, none⟩)), (14, .bool (!r5268))] w5269 (by kernel_rfl) ?_
      rcases gx_bif hm with ⟨hc5272, hm⟩ | ⟨hc5272, hm⟩
      · refine W_known 14 true (by kernel_rfl) hc5272 ?_
        refine W_run 17 [(1, .pointer (some ⟨b5246, 0, none⟩)), (31, .bool true)] w5269 (by kernel_rfl) ?_
        refine W_nil ?_
        obtain rfl := Option.some.inj hm
        exact N_meet fun a ha => ⟨M5271.pick [0] (by kernel_rfl), ha.sub (by kernel_rfl)⟩
      · refine W_known 14 false (by kernel_rfl) hc5272 ?_
        refine W_run 1 [(1, .pointer (some ⟨b5246, 0, none⟩)), (14, .bool false), (15, .pointer (some ⟨b5246, 1, none⟩))] w5269 (by kernel_rfl) ?_
        refine W_val (.slice p5238 x5232.Copy.length c5239) w5269 (by kernel_rfl) (E_load (e := 28) (fr := (0, 0)) _ _ false 1 b5246 1 [.slice p5234 x5232.Memory.length c5235, .slice p5238 x5232.Copy.length c5239, .slice p5242 x5232.Dirty.length c5243] (.slice p5238 x5232.Copy.length c5239) rfl (by kernel_rfl) (by kernel_rfl) (by kernel_rfl) (M5271.blk 0 (b := b5246) (o := .cells ⟨[.slice p5234 x5232.Memory.length c5235, .slice p5238 x5232.Copy.length c5239, .slice p5242 x5232.Dirty.length c5243]⟩ 28 (0, 0)) (by kernel_rfl))) ?_
        refine W_run 2 [(1, .pointer (some ⟨b5246, 0, none⟩)), (14, .bool false), (17, .int .i64 (x5232.Copy.length : Int)), (18, .pointer (some ⟨b5246, 0, none⟩))] w5269 (by kernel_rfl) ?_
        refine W_val (.slice p5234 x5232.Memory.length c5235) w5269 (by kernel_rfl) (E_load (e := 28) (fr := (0, 0)) _ _ false 1 b5246 0 [.slice p5234 x5232.Memory.length c5235, .slice p5238 x5232.Copy.length c5239, .slice p5242 x5232.Dirty.length c5243] (.slice p5234 x5232.Memory.length c5235) rfl (by kernel_rfl) (by kernel_rfl) (by kernel_rfl) (M5271.blk 0 (b := b5246) (o := .cells ⟨[.slice p5234 x5232.Memory.length c5235, .slice p5238 x5232.Copy.length c5239, .slice p5242 x5232.Dirty.length c5243]⟩ 28 (0, 0)) (by kernel_rfl))) ?_
        refine W_run 4 [(1, .pointer (some ⟨b5246, 0, none⟩)), (23, .bool ((x5232.Copy.length : Int) != (x5232.Memory.length : Int)))] w5269 (by kernel_rfl) ?_
        rcases gx_bif hm with ⟨hc5273, hm⟩ | ⟨hc5273, hm⟩
        · refine W_known 23 true (by kernel_rfl) hc5273 ?_
          refine W_run 8 [(1, .pointer (some ⟨b5246, 0, none⟩)), (31, .bool true)] w5269 (by kernel_rfl) ?_
          refine W_nil ?_
          obtain rfl := Option.some.inj hm
          exact N_meet fun a ha => ⟨M5271.pick [0] (by kernel_rfl), ha.sub (by kernel_rfl)⟩
        · refine W_known 23 false (by kernel_rfl) hc5273 ?_
          refine W_run 1 [(1, .pointer (some ⟨b5246, 0, none⟩)), (23, .bool false), (24, .pointer (some ⟨b5246, 2, none⟩))] w5269 (by kernel_rfl) ?_
          refine W_val (.slice p5242 x5232.Dirty.length c5243) w5269 (by kernel_rfl) (E_load (e := 28) (fr := (0, 0)) _ _ false 1 b5246 2 [.slice p5234 x5232.Memory.length c5235, .slice p5238 x5232.Copy.length c5239, .slice p5242 x5232.Dirty.length c5243] (.slice p5242 x5232.Dirty.length c5243) rfl (by kernel_rfl) (by kernel_rfl) (by kernel_rfl) (M5271.blk 0 (b := b5246) (o := .cells ⟨[.slice p5234 x5232.Memory.length c5235, .slice p5238 x5232.Copy.length c5239, .slice p5242 x5232.Dirty.length c5243]⟩ 28 (0, 0)) (by kernel_rfl))) ?_
          refine W_run 2 [(1, .pointer (some ⟨b5246, 0, none⟩)), (23, .bool false), (26, .int .i64 (x5232.Dirty.length : Int)), (27, .pointer (some ⟨b5246, 0, none⟩))] w5269 (by kernel_rfl) ?_
          refine W_val (.slice p5234 x5232.Memory.length c5235) w5269 (by kernel_rfl) (E_load (e := 28) (fr := (0, 0)) _ _ false 1 b5246 0 [.slice p5234 x5232.Memory.length c5235, .slice p5238 x5232.Copy.length c5239, .slice p5242 x5232.Dirty.length c5243] (.slice p5234 x5232.Memory.length c5235) rfl (by kernel_rfl) (by kernel_rfl) (by kernel_rfl) (M5271.blk 0 (b := b5246) (o := .cells ⟨[.slice p5234 x5232.Memory.length c5235, .slice p5238 x5232.Copy.length c5239, .slice p5242 x5232.Dirty.length c5243]⟩ 28 (0, 0)) (by kernel_rfl))) ?_
          refine W_run 3 [(1, .pointer (some ⟨b5246, 0, none⟩)), (31, .bool ((x5232.Dirty.length : Int) != (x5232.Memory.length : Int)))] w5269 (by kernel_rfl) ?_
          refine W_nil ?_
          obtain rfl := Option.some.inj hm
          exact N_meet fun a ha => ⟨M5271.pick [0] (by kernel_rfl), ha.sub (by kernel_rfl)⟩
  · intro a5276 w5274 ⟨M5275, hS5277⟩
    refine N_use hS5277 ?_
    have hm := hm5262
    refine N_then ?_
    rcases gx_bif hm with ⟨hc5278, hm⟩ | ⟨hc5278, hm⟩
    · refine G_cond_t (b := o5260) hc5278 (by kernel_rfl) ?_
      refine G_seq ?_
      refine G_region ?_
      refine W_run 1 [(2, .bool false)] w5274 (by kernel_rfl) ?_
      refine W_nil ?_
      refine N_then ?_
      refine G_ret ?_
      refine N_then_ret ?_
      obtain rfl := Option.some.inj hm
      refine N_ret [.bool false] (RVs_cons (RV_tmp (by kernel_rfl)) RVs_nil) ?_
      exact ⟨rfl, M5275.pick [] (by kernel_rfl)⟩
    · refine G_cond_f (b := o5260) hc5278 (by kernel_rfl) ?_
      refine G_skip ?_
      refine N_then ?_
      refine G_seq ?_
      refine G_seq ?_
      refine G_region ?_
      refine W_run 1 [(1, .pointer (some ⟨b5246, 0, none⟩)), (3, .int .i64 0)] w5274 (by kernel_rfl) ?_
      refine W_nil ?_
      refine N_then ?_
      obtain ⟨out5336, hw5337, hmo5338⟩ := gx_bind hm
      refine G_meet (fun a w' => ∃ (o5339 : Unit), out5336 = .inl o5339 ∧ Mem [] w w' [] ∧ Sat Try.f56.ntmps [] a) ?_ ?_
      · refine G_block ?_
        refine G_while (σ := Int) (ρ := (Unit) ⊕ (Bool)) (fun s5329 a w' => Mem [] w w' [[(b5246, .cells ⟨[.slice p5234 x5232.Memory.length c5235, .slice p5238 x5232.Copy.length c5239, .slice p5242 x5232.Dirty.length c5243]⟩ 28 (0, 0))]] ∧ Sat Try.f56.ntmps [(1, .pointer (some ⟨b5246, 0, none⟩)), (3, .int .i64 s5329)] a) hw5337 (fun a ha => ⟨M5275.pick [0] (by kernel_rfl), ha.sub (by kernel_rfl)⟩) ?_
        clear hm
        intro s5329 x5330 hm hout5331 a5332 w5333 ⟨M5334, hS5335⟩
        refine G_use hS5335 ?_
        refine G_seq ?_
        refine G_seq ?_
        refine G_region ?_
        refine W_run 2 [(1, .pointer (some ⟨b5246, 0, none⟩)), (3, .int .i64 s5329), (32, .int .i64 s5329), (33, .pointer (some ⟨b5246, 0, none⟩))] w5333 (by kernel_rfl) ?_
        refine W_val (.slice p5234 x5232.Memory.length c5235) w5333 (by kernel_rfl) (E_load (e := 28) (fr := (0, 0)) _ _ false 1 b5246 0 [.slice p5234 x5232.Memory.length c5235, .slice p5238 x5232.Copy.length c5239, .slice p5242 x5232.Dirty.length c5243] (.slice p5234 x5232.Memory.length c5235) rfl (by kernel_rfl) (by kernel_rfl) (by kernel_rfl) (M5334.blk 0 (b := b5246) (o := .cells ⟨[.slice p5234 x5232.Memory.length c5235, .slice p5238 x5232.Copy.length c5239, .slice p5242 x5232.Dirty.length c5243]⟩ 28 (0, 0)) (by kernel_rfl))) ?_
        refine W_run 2 [(1, .pointer (some ⟨b5246, 0, none⟩)), (3, .int .i64 s5329), (36, .bool (decide (s5329 < (x5232.Memory.length : Int))))] w5333 (by kernel_rfl) ?_
        refine W_nil ?_
        refine N_then ?_
        rcases gx_bif hm with ⟨hc5340, hm⟩ | ⟨hc5340, hm⟩
        · refine G_cond_t (b := (decide (s5329 < (x5232.Memory.length : Int)))) hc5340 (by kernel_rfl) ?_
          refine G_skip ?_
          refine N_then ?_
          refine G_seq ?_
          refine G_block ?_
          refine G_seq ?_
          obtain ⟨o5349, ho5350, hm5351⟩ := gx_bind hm
          refine G_meet (fun a w' => Mem [] w w' [[(b5246, .cells ⟨[.slice p5234 x5232.Memory.length c5235, .slice p5238 x5232.Copy.length c5239, .slice p5242 x5232.Dirty.length c5243]⟩ 28 (0, 0))]] ∧ Sat Try.f56.ntmps [(1, .pointer (some ⟨b5246, 0, none⟩)), (3, .int .i64 s5329), (57, .bool o5349)] a) ?_ ?_
          · have hm := ho5350
            refine G_quiet (by kernel_rfl) (by kernel_rfl) M5334 ?_
            refine Z_runs [.pointer (some ⟨b5246, 0, none⟩)] [(1, .pointer (some ⟨b5246, 0, none⟩)), (3, .int .i64 s5329), (39, .pointer (some ⟨b5246, 0, none⟩))] (fun w_ => by kernel_rfl) (by kernel_rfl) ?_
            refine Z_val (.slice p5234 x5232.Memory.length c5235) (by kernel_rfl) (fun w_ M_ => (E_load (e := 28) (fr := (0, 0)) _ _ false 1 b5246 0 [.slice p5234 x5232.Memory.length c5235, .slice p5238 x5232.Copy.length c5239, .slice p5242 x5232.Dirty.length c5243] (.slice p5234 x5232.Memory.length c5235) rfl (by kernel_rfl) (by kernel_rfl) (by kernel_rfl) (M_.blk 0 (b := b5246) (o := .cells ⟨[.slice p5234 x5232.Memory.length c5235, .slice p5238 x5232.Copy.length c5239, .slice p5242 x5232.Dirty.length c5243]⟩ 28 (0, 0)) (by kernel_rfl)))) ?_
            refine Z_runs [.int .i64 s5329] [(1, .pointer (some ⟨b5246, 0, none⟩)), (3, .int .i64 s5329), (40, .slice p5234 x5232.Memory.length c5235), (41, .int .i64 s5329)] (fun w_ => by kernel_rfl) (by kernel_rfl) ?_
            obtain ⟨y5352, hy5352, hm⟩ := gx_bind hm
            refine Z_val (elemP p5234 (s5329.toNat * 1)) (by kernel_rfl) (fun w_ M_ => (E_index (E := encI) _ _ _ x5232.Memory.length c5235 .i64 s5329 1 (y := y5352) rfl (by kernel_rfl) (by kernel_rfl) (by kernel_rfl) (h5236.mem0 M_) rfl hy5352)) ?_
            refine Z_val (.int .i64 y5352) (by kernel_rfl) (fun w_ M_ => (E_loadE (E := encI) _ _ false 1 s5329 0 (s5329.toNat * 1) y5352 (.int .i64 y5352) rfl (by kernel_rfl) (by kernel_rfl) (by kernel_rfl) (h5236.mem0 M_) hy5352 rfl)) ?_
            refine Z_runs [.pointer (some ⟨b5246, 1, none⟩)] [(1, .pointer (some ⟨b5246, 0, none⟩)), (3, .int .i64 s5329), (43, .int .i64 y5352), (44, .pointer (some ⟨b5246, 1, none⟩))] (fun w_ => by kernel_rfl) (by kernel_rfl) ?_
            refine Z_val (.slice p5238 x5232.Copy.length c5239) (by kernel_rfl) (fun w_ M_ => (E_load (e := 28) (fr := (0, 0)) _ _ false 1 b5246 1 [.slice p5234 x5232.Memory.length c5235, .slice p5238 x5232.Copy.length c5239, .slice p5242 x5232.Dirty.length c5243] (.slice p5238 x5232.Copy.length c5239) rfl (by kernel_rfl) (by kernel_rfl) (by kernel_rfl) (M_.blk 0 (b := b5246) (o := .cells ⟨[.slice p5234 x5232.Memory.length c5235, .slice p5238 x5232.Copy.length c5239, .slice p5242 x5232.Dirty.length c5243]⟩ 28 (0, 0)) (by kernel_rfl)))) ?_
            refine Z_runs [.int .i64 s5329] [(1, .pointer (some ⟨b5246, 0, none⟩)), (3, .int .i64 s5329), (43, .int .i64 y5352), (45, .slice p5238 x5232.Copy.length c5239), (46, .int .i64 s5329)] (fun w_ => by kernel_rfl) (by kernel_rfl) ?_
            obtain ⟨y5353, hy5353, hm⟩ := gx_bind hm
            refine Z_val (elemP p5238 (s5329.toNat * 1)) (by kernel_rfl) (fun w_ M_ => (E_index (E := encI) _ _ _ x5232.Copy.length c5239 .i64 s5329 1 (y := y5353) rfl (by kernel_rfl) (by kernel_rfl) (by kernel_rfl) (h5240.mem0 M_) rfl hy5353)) ?_
            refine Z_val (.int .i64 y5353) (by kernel_rfl) (fun w_ M_ => (E_loadE (E := encI) _ _ false 1 s5329 0 (s5329.toNat * 1) y5353 (.int .i64 y5353) rfl (by kernel_rfl) (by kernel_rfl) (by kernel_rfl) (h5240.mem0 M_) hy5353 rfl)) ?_
            refine Z_runs [.bool (y5352 != y5353), .bool (y5352 != y5353)] [(1, .pointer (some ⟨b5246, 0, none⟩)), (3, .int .i64 s5329), (50, .bool (y5352 != y5353))] (fun w_ => by kernel_rfl) (by kernel_rfl) ?_
            rcases gx_bif hm with ⟨hc5354, hm⟩ | ⟨hc5354, hm⟩
            · refine Z_known 50 true (by kernel_rfl) hc5354 ?_
              refine Z_runs [.pointer (some ⟨b5246, 2, none⟩)] [(1, .pointer (some ⟨b5246, 0, none⟩)), (3, .int .i64 s5329), (50, .bool true), (51, .pointer (some ⟨b5246, 2, none⟩))] (fun w_ => by kernel_rfl) (by kernel_rfl) ?_
              refine Z_val (.slice p5242 x5232.Dirty.length c5243) (by kernel_rfl) (fun w_ M_ => (E_load (e := 28) (fr := (0, 0)) _ _ false 1 b5246 2 [.slice p5234 x5232.Memory.length c5235, .slice p5238 x5232.Copy.length c5239, .slice p5242 x5232.Dirty.length c5243] (.slice p5242 x5232.Dirty.length c5243) rfl (by kernel_rfl) (by kernel_rfl) (by kernel_rfl) (M_.blk 0 (b := b5246) (o := .cells ⟨[.slice p5234 x5232.Memory.length c5235, .slice p5238 x5232.Copy.length c5239, .slice p5242 x5232.Dirty.length c5243]⟩ 28 (0, 0)) (by kernel_rfl)))) ?_
              refine Z_runs [.int .i64 s5329] [(1, .pointer (some ⟨b5246, 0, none⟩)), (3, .int .i64 s5329), (50, .bool true), (52, .slice p5242 x5232.Dirty.length c5243), (53, .int .i64 s5329)] (fun w_ => by kernel_rfl) (by kernel_rfl) ?_
              obtain ⟨y5355, hy5355, hm⟩ := gx_bind hm
              refine Z_val (elemP p5242 (s5329.toNat * 1)) (by kernel_rfl) (fun w_ M_ => (E_index (E := encB) _ _ _ x5232.Dirty.length c5243 .i64 s5329 1 (y := y5355) rfl (by kernel_rfl) (by kernel_rfl) (by kernel_rfl) (h5244.mem0 M_) rfl hy5355)) ?_
              refine Z_val (.bool y5355) (by kernel_rfl) (fun w_ M_ => (E_loadE (E := encB) _ _ false 1 s5329 0 (s5329.toNat * 1) y5355 (.bool y5355) rfl (by kernel_rfl) (by kernel_rfl) (by kernel_rfl) (h5244.mem0 M_) hy5355 rfl)) ?_
              refine Z_runs [.bool (!y5355), .bool (!y5355)] [(1, .pointer (some ⟨b5246, 0, none⟩)), (3, .int .i64 s5329), (57, .bool (!y5355))] (fun w_ => by kernel_rfl) (by kernel_rfl) ?_
              refine Z_end fun w5356 M5357 => ?_
              obtain rfl := Option.some.inj hm
              exact N_meet fun a ha => ⟨M5357.pick [0] (by kernel_rfl), ha.sub (by kernel_rfl)⟩
            · refine Z_known 50 false (by kernel_rfl) hc5354 ?_
              refine Z_runs [undef, undef, undef, undef, undef, undef, .bool false] [(1, .pointer (some ⟨b5246, 0, none⟩)), (3, .int .i64 s5329), (57, .bool false)] (fun w_ => by kernel_rfl) (by kernel_rfl) ?_
              refine Z_end fun w5358 M5359 => ?_
              obtain rfl := Option.some.inj hm
              exact N_meet fun a ha => ⟨M5359.pick [0] (by kernel_rfl), ha.sub (by kernel_rfl)⟩
          · intro a5362 w5360 ⟨M5361, hS5363⟩
            refine N_use hS5363 ?_
            have hm := hm5351
            refine N_then ?_
            rcases gx_bif hm with ⟨hc5364, hm⟩ | ⟨hc5364, hm⟩
            · refine G_cond_t (b := o5349) hc5364 (by kernel_rfl) ?_
              refine G_seq ?_
              refine G_region ?_
              refine W_run 1 [(2, .bool false)] w5360 (by kernel_rfl) ?_
              refine W_nil ?_
              refine N_then ?_
              refine G_ret ?_
              refine N_block_ret ?_
              refine N_then_ret ?_
              refine N_then_ret ?_
              obtain rfl := Option.some.inj hm
              obtain rfl := hout5331 _ rfl
              have hm := hmo5338; simp only [Sum.elim_inr] at hm
              refine N_block_ret ?_
              refine N_meet_ret ?_
              refine N_then_ret ?_
              obtain rfl := Option.some.inj hm
              refine N_ret [.bool false] (RVs_cons (RV_tmp (by kernel_rfl)) RVs_nil) ?_
              exact ⟨rfl, M5361.pick [] (by kernel_rfl)⟩
            · refine G_cond_f (b := o5349) hc5364 (by kernel_rfl) ?_
              refine G_skip ?_
              refine N_block ?_
              refine N_then ?_
              refine G_region ?_
              refine W_run 3 [(1, .pointer (some ⟨b5246, 0, none⟩)), (3, .int .i64 (w64 (s5329 + 1)))] w5360 (by kernel_rfl) ?_
              refine W_nil ?_
              obtain rfl := Option.some.inj hm
              exact N_loop fun a ha => ⟨_, rfl, M5361.pick [0] (by kernel_rfl), ha.sub (by kernel_rfl)⟩
        · refine G_cond_f (b := (decide (s5329 < (x5232.Memory.length : Int)))) hc5340 (by kernel_rfl) ?_
          refine G_exit ?_
          refine N_then_exit ?_
          refine N_then_exit ?_
          refine N_block_eq ?_
          obtain rfl := Option.some.inj hm
          obtain rfl := hout5331 _ rfl
          exact N_meet fun a ha => ⟨_, rfl, M5334.pick [] (by kernel_rfl), ha.sub (by kernel_rfl)⟩
      · intro a5365 w5366 ⟨o5339, hout_, M5367, hS5368⟩
        refine N_use hS5368 ?_
        subst hout_
        have hm := hmo5338; simp only [Sum.elim_inl] at hm
        refine N_then ?_
        refine G_seq ?_
        refine G_region ?_
        refine W_run 1 [(2, .bool true)] w5366 (by kernel_rfl) ?_
        refine W_nil ?_
        refine N_then ?_
        refine G_ret ?_
        obtain rfl := Option.some.inj hm
        refine N_ret [.bool true] (RVs_cons (RV_tmp (by kernel_rfl)) RVs_nil) ?_
        exact ⟨rfl, M5367.pick [] (by kernel_rfl)⟩
theorem c_s_CopyRound (w : World) (x5195 : Copying) (p5197 : Option Addr) (c5198 : Nat) (h5199 : rdS encI w x5195.Memory p5197 c5198) (p5201 : Option Addr) (c5202 : Nat) (h5203 : rdS encI w x5195.Copy p5201 c5202) (p5205 : Option Addr) (c5206 : Nat) (h5207 : rdS encB w x5195.Dirty p5205 c5206) (x5208 : Int) {r : Copying × Int × Bool} (hm : M.s_CopyRound x5195 x5208 = some r) :
    Calls Try.prog 33 #[.agg #[.slice p5197 x5195.Memory.length c5198, .slice p5201 x5195.Copy.length c5202, .slice p5205 x5195.Dirty.length c5206], .int .i64 x5208] w fun e w' => ∃ (p5210 : Option Addr) (c5211 : Nat) (sg5212 : Seg), ∃ (p5214 : Option Addr) (c5215 : Nat) (sg5216 : Seg), ∃ (p5218 : Option Addr) (c5219 : Nat) (sg5220 : Seg), e = .returned (.tuple #[.agg #[.slice p5210 r.1.Memory.length c5211, .slice p5214 r.1.Copy.length c5215, .slice p5218 r.1.Dirty.length c5219], .int .i64 r.2.1, .bool r.2.2]) ∧ ownS encI r.1.Memory p5210 c5211 sg5212 ∧ ownS encI r.1.Copy p5214 c5215 sg5216 ∧ ownS encB r.1.Dirty p5218 c5219 sg5220 ∧ Mem [] w w' [sg5212, sg5216, sg5220] := by
  unfold M.s_CopyRound at hm
  refine C_enter Try.func33 rfl (by kernel_rfl) ?_
  have M0 := Mem.refl [] w
  refine G_seq ?_
  refine G_region ?_
  refine W_new (fun b => .pointer (some ⟨b, 0, none⟩)) (.cells ⟨[.slice p5197 x5195.Memory.length c5198, .slice p5201 x5195.Copy.length c5202, .slice p5205 x5195.Dirty.length c5206]⟩ 28 (0, 0)) M0 rfl (by kernel_rfl) (by kernel_rfl) ?_
  intro b5222 w5223 M5224
  refine W_new (fun b => .pointer (some ⟨b, 0, none⟩)) (.cells ⟨[.slice none 0 0, .slice none 0 0, .slice none 0 0]⟩ 28 (0, 0)) M5224 rfl (by kernel_rfl) (by kernel_rfl) ?_
  intro b5229 w5230 M5231
  refine W_run 2 [(1, .int .i64 x5208), (2, .pointer (some ⟨b5222, 0, none⟩)), (4, .pointer (some ⟨b5229, 0, none⟩))] w5230 (by kernel_rfl) ?_
  refine W_nil ?_
  refine N_then ?_
  refine G_seq ?_
  refine G_seq ?_
  obtain ⟨o5378, ho5379, hm5380⟩ := gx_bind hm
  refine G_meet (fun a w' => Mem [] w w' [[(b5222, .cells ⟨[.slice p5197 x5195.Memory.length c5198, .slice p5201 x5195.Copy.length c5202, .slice p5205 x5195.Dirty.length c5206]⟩ 28 (0, 0))], [(b5229, .cells ⟨[.slice none 0 0, .slice none 0 0, .slice none 0 0]⟩ 28 (0, 0))]] ∧ Sat Try.f33.ntmps [(1, .int .i64 x5208), (2, .pointer (some ⟨b5222, 0, none⟩)), (4, .pointer (some ⟨b5229, 0, none⟩)), (16, .bool o5378)] a) ?_ ?_
  · have hm := ho5379
    refine G_region ?_
    refine W_val (.agg #[.slice p5197 x5195.Memory.length c5198, .slice p5201 x5195.Copy.length c5202, .slice p5205 x5195.Dirty.length c5206]) w5230 (by kernel_rfl) (E_load (e := 28) (fr := (0, 0)) _ _ true 3 b5222 0 [.slice p5197 x5195.Memory.length c5198, .slice p5201 x5195.Copy.length c5202, .slice p5205 x5195.Dirty.length c5206] (.agg #[.slice p5197 x5195.Memory.length c5198, .slice p5201 x5195.Copy.length c5202, .slice p5205 x5195.Dirty.length c5206]) rfl (by kernel_rfl) (by kernel_rfl) (by kernel_rfl) (M5231.blk 0 (b := b5222) (o := .cells ⟨[.slice p5197 x5195.Memory.length c5198, .slice p5201 x5195.Copy.length c5202, .slice p5205 x5195.Dirty.length c5206]⟩ 28 (0, 0)) (by kernel_rfl))) ?_
    obtain ⟨r5381, hr5381, hm⟩ := gx_bind hm
    refine W_call 56 #[.agg #[.slice p5197 x5195.Memory.length c5198, .slice p5201 x5195.Copy.length c5202, .slice p5205 x5195.Dirty.length c5206]] (by kernel_rfl) (by kernel_rfl) ?_
    refine (c_s_l19Good w5230 x5195 p5197 c5198 (h5199.mem0 M5231) p5201 c5202 (h5203.mem0 M5231) p5205 c5206 (h5207.mem0 M5231) hr5381).mono ?_
    rintro e_ w5382 ⟨rfl, K5383⟩
    have M5384 := M5231.call0 K5383
    refine ⟨_, rfl, ?_⟩
    refine W_run 2 [(1, .int .i64 x5208), (2, .pointer (some ⟨b5222, 0, none⟩)), (4, .pointer (some ⟨b5229, 0, none⟩)), (12, .bool (!r5381))] w5382 (by kernel_rfl) ?_
    rcases gx_bif hm with ⟨hc5385, hm⟩ | ⟨hc5385, hm⟩
    · refine W_known 12 true (by kernel_rfl) hc5385 ?_
      refine W_run 4 [(1, .int .i64 x5208), (2, .pointer (some ⟨b5222, 0, none⟩)), (4, .pointer (some ⟨b5229, 0, none⟩)), (16, .bool true)] w5382 (by kernel_rfl) ?_
      refine W_nil ?_
      obtain rfl := Option.some.inj hm
      exact N_meet fun a ha => ⟨M5384.pick [0, 1] (by kernel_rfl), ha.sub (by kernel_rfl)⟩
    · refine W_known 12 false (by kernel_rfl) hc5385 ?_
      refine W_run 1 [(1, .int .i64 x5208), (2, .pointer (some ⟨b5222, 0, none⟩)), (4, .pointer (some ⟨b5229, 0, none⟩)), (12, .bool false), (13, .int .i64 x5208)] w5382 (by kernel_rfl) ?_
      obtain ⟨r5386, hr5386, hm⟩ := gx_bind hm
      refine W_call 73 #[.int .i64 x5208, .int .i64 0, .int .i64 12] (by kernel_rfl) (by kernel_rfl) ?_
      refine (c_s_l1In w5382 x5208 0 12 hr5386).mono ?_
      rintro e_ w5387 ⟨rfl, K5388⟩
      have M5389 := M5384.call0 K5388
      refine ⟨_, rfl, ?_⟩
      refine W_run 2 [(1, .int .i64 x5208), (2, .pointer (some ⟨b5222, 0, none⟩)), (4, .pointer (some ⟨b5229, 0, none⟩)), (16, .bool (!r5386))] w5387 (by kernel_rfl) ?_
      refine W_nil ?_
      obtain rfl := Option.some.inj hm
      exact N_meet fun a ha => ⟨M5389.pick [0, 1] (by kernel_rfl), ha.sub (by kernel_rfl)⟩
  · intro a5392 w5390 ⟨M5391, hS5393⟩
    refine N_use hS5393 ?_
    have hm := hm5380
    refine N_then ?_
    rcases gx_bif hm with ⟨hc5394, hm⟩ | ⟨hc5394, hm⟩
    · refine G_cond_t (b := o5378) hc5394 (by kernel_rfl) ?_
      refine G_seq ?_
      refine G_region ?_
      refine W_run 1 [(4, .pointer (some ⟨b5229, 0, none⟩)), (17, .agg #[.slice none 0 0, .slice none 0 0, .slice none 0 0])] w5390 (by kernel_rfl) ?_
      refine W_store _ _ _ true 3 b5229 0 [.slice none 0 0, .slice none 0 0, .slice none 0 0] 28 (.agg #[.slice none 0 0, .slice none 0 0, .slice none 0 0]) 1 [.slice none 0 0, .slice none 0 0, .slice none 0 0] M5391 (by kernel_rfl) rfl (by kernel_rfl) (by kernel_rfl) (by kernel_rfl) (by kernel_rfl) (by kernel_rfl) (by kernel_rfl) (by kernel_rfl) (by kernel_rfl) ?_
      intro w5398 M5399
      refine W_run 2 [(4, .pointer (some ⟨b5229, 0, none⟩)), (5, .int .i64 0), (6, .bool false)] w5398 (by kernel_rfl) ?_
      refine W_nil ?_
      refine N_then ?_
      refine G_ret ?_
      refine N_then_ret ?_
      obtain rfl := Option.some.inj hm
      refine N_ret [.agg #[.slice none 0 0, .slice none 0 0, .slice none 0 0], .int .i64 0, .bool false] (RVs_cons (RV_cell (g := true) (k := 3) (b := b5229) (off := 0) (cs := [.slice none 0 0, .slice none 0 0, .slice none 0 0]) (e := 28) (fr := (0, 0)) (v := .agg #[.slice none 0 0, .slice none 0 0, .slice none 0 0]) (M5399.blk 1 (b := b5229) (o := .cells ⟨[.slice none 0 0, .slice none 0 0, .slice none 0 0]⟩ 28 (0, 0)) (by kernel_rfl)) (by kernel_rfl) (by kernel_rfl) (by kernel_rfl)) (RVs_cons (RV_tmp (by kernel_rfl)) (RVs_cons (RV_tmp (by kernel_rfl)) RVs_nil))) ?_
      exact ⟨none, 0, [], none, 0, [], none, 0, [], rfl, ownS_nil, ownS_nil, ownS_nil, M5399.pick [100000, 100001, 100002] (by kernel_rfl)⟩
    · refine G_cond_f (b := o5378) hc5394 (by kernel_rfl) ?_
      refine G_skip ?_
      refine N_then ?_
      refine G_seq ?_
      refine G_region ?_
      refine W_val (.agg #[.slice p5197 x5195.Memory.length c5198, .slice p5201 x5195.Copy.length c5202, .slice p5205 x5195.Dirty.length c5206]) w5390 (by kernel_rfl) (E_load (e := 28) (fr := (0, 0)) _ _ true 3 b5222 0 [.slice p5197 x5195.Memory.length c5198, .slice p5201 x5195.Copy.length c5202, .slice p5205 x5195.Dirty.length c5206] (.agg #[.slice p5197 x5195.Memory.length c5198, .slice p5201 x5195.Copy.length c5202, .slice p5205 x5195.Dirty.length c5206]) rfl (by kernel_rfl) (by kernel_rfl) (by kernel_rfl) (M5391.blk 0 (b := b5222) (o := .cells ⟨[.slice p5197 x5195.Memory.length c5198, .slice p5201 x5195.Copy.length c5202, .slice p5205 x5195.Dirty.length c5206]⟩ 28 (0, 0)) (by kernel_rfl))) ?_
      refine W_run 1 [(4, .pointer (some ⟨b5229, 0, none⟩)), (19, .agg #[.slice p5197 x5195.Memory.length c5198, .slice p5201 x5195.Copy.length c5202, .slice p5205 x5195.Dirty.length c5206]), (20, .int .i64 x5208)] w5390 (by kernel_rfl) ?_
      obtain ⟨r5400, hr5400, hm⟩ := gx_bind hm
      refine W_call 67 #[.agg #[.slice p5197 x5195.Memory.length c5198, .slice p5201 x5195.Copy.length c5202, .slice p5205 x5195.Dirty.length c5206], .int .i64 x5208] (by kernel_rfl) (by kernel_rfl) ?_
      refine (c_s_l19Round w5390 x5195 p5197 c5198 (h5199.mem0 M5391) p5201 c5202 (h5203.mem0 M5391) p5205 c5206 (h5207.mem0 M5391) x5208 hr5400).mono ?_
      rintro e_ w5416 ⟨p5402, c5403, sg5404, p5407, c5408, sg5409, p5412, c5413, sg5414, rfl, ho5405, ho5410, ho5415, K5417⟩
      have M5418 := M5391.call K5417
      refine ⟨_, rfl, ?_⟩
      refine W_run 3 [(4, .pointer (some ⟨b5229, 0, none⟩)), (22, .agg #[.slice p5402 r5400.1.Memory.length c5403, .slice p5407 r5400.1.Copy.length c5408, .slice p5412 r5400.1.Dirty.length c5413]), (23, .int .i64 r5400.2)] w5416 (by kernel_rfl) ?_
      refine W_new (fun b => .pointer (some ⟨b, 0, none⟩)) (.cells ⟨[.slice none 0 0, .slice none 0 0, .slice none 0 0]⟩ 28 (0, 0)) M5418 rfl (by kernel_rfl) (by kernel_rfl) ?_
      intro b5423 w5424 M5425
      refine W_store _ _ _ true 3 b5423 0 [.slice none 0 0, .slice none 0 0, .slice none 0 0] 28 (.agg #[.slice p5402 r5400.1.Memory.length c5403, .slice p5407 r5400.1.Copy.length c5408, .slice p5412 r5400.1.Dirty.length c5413]) 5 [.slice p5402 r5400.1.Memory.length c5403, .slice p5407 r5400.1.Copy.length c5408, .slice p5412 r5400.1.Dirty.length c5413] M5425 (by kernel_rfl) rfl (by kernel_rfl) (by kernel_rfl) (by kernel_rfl) (by kernel_rfl) (by kernel_rfl) (by kernel_rfl) (by kernel_rfl) (by kernel_rfl) ?_
      intro w5426 M5427
      refine W_run 1 [(4, .pointer (some ⟨b5229, 0, none⟩)), (7, .pointer (some ⟨b5423, 0, none⟩)), (8, .int .i64 r5400.2)] w5426 (by kernel_rfl) ?_
      refine W_nil ?_
      refine N_then ?_
      refine G_seq ?_
      refine G_region ?_
      refine W_val (.agg #[.slice p5402 r5400.1.Memory.length c5403, .slice p5407 r5400.1.Copy.length c5408, .slice p5412 r5400.1.Dirty.length c5413]) w5426 (by kernel_rfl) (E_load (e := 28) (fr := (0, 0)) _ _ true 3 b5423 0 [.slice p5402 r5400.1.Memory.length c5403, .slice p5407 r5400.1.Copy.length c5408, .slice p5412 r5400.1.Dirty.length c5413] (.agg #[.slice p5402 r5400.1.Memory.length c5403, .slice p5407 r5400.1.Copy.length c5408, .slice p5412 r5400.1.Dirty.length c5413]) rfl (by kernel_rfl) (by kernel_rfl) (by kernel_rfl) (M5427.blk 5 (b := b5423) (o := .cells ⟨[.slice p5402 r5400.1.Memory.length c5403, .slice p5407 r5400.1.Copy.length c5408, .slice p5412 r5400.1.Dirty.length c5413]⟩ 28 (0, 0)) (by kernel_rfl))) ?_
      refine W_run 1 [(4, .pointer (some ⟨b5229, 0, none⟩)), (24, .agg #[.slice p5402 r5400.1.Memory.length c5403, .slice p5407 r5400.1.Copy.length c5408, .slice p5412 r5400.1.Dirty.length c5413]), (25, .int .i64 r5400.2)] w5426 (by kernel_rfl) ?_
      refine W_store _ _ _ true 3 b5229 0 [.slice none 0 0, .slice none 0 0, .slice none 0 0] 28 (.agg #[.slice p5402 r5400.1.Memory.length c5403, .slice p5407 r5400.1.Copy.length c5408, .slice p5412 r5400.1.Dirty.length c5413]) 1 [.slice p5402 r5400.1.Memory.length c5403, .slice p5407 r5400.1.Copy.length c5408, .slice p5412 r5400.1.Dirty.length c5413] M5427 (by kernel_rfl) rfl (by kernel_rfl) (by kernel_rfl) (by kernel_rfl) (by kernel_rfl) (by kernel_rfl) (by kernel_rfl) (by kernel_rfl) (by kernel_rfl) ?_
      intro w5428 M5429
      refine W_run 2 [(4, .pointer (some ⟨b5229, 0, none⟩)), (5, .int .i64 r5400.2), (6, .bool true)] w5428 (by kernel_rfl) ?_
      refine W_nil ?_
      refine N_then ?_
      refine G_ret ?_
      obtain rfl := Option.some.inj hm
      refine N_ret [.agg #[.slice p5402 r5400.1.Memory.length c5403, .slice p5407 r5400.1.Copy.length c5408, .slice p5412 r5400.1.Dirty.length c5413], .int .i64 r5400.2, .bool true] (RVs_cons (RV_cell (g := true) (k := 3) (b := b5229) (off := 0) (cs := [.slice p5402 r5400.1.Memory.length c5403, .slice p5407 r5400.1.Copy.length c5408, .slice p5412 r5400.1.Dirty.length c5413]) (e := 28) (fr := (0, 0)) (v := .agg #[.slice p5402 r5400.1.Memory.length c5403, .slice p5407 r5400.1.Copy.length c5408, .slice p5412 r5400.1.Dirty.length c5413]) (M5429.blk 1 (b := b5229) (o := .cells ⟨[.slice p5402 r5400.1.Memory.length c5403, .slice p5407 r5400.1.Copy.length c5408, .slice p5412 r5400.1.Dirty.length c5413]⟩ 28 (0, 0)) (by kernel_rfl)) (by kernel_rfl) (by kernel_rfl) (by kernel_rfl)) (RVs_cons (RV_tmp (by kernel_rfl)) (RVs_cons (RV_tmp (by kernel_rfl)) RVs_nil))) ?_
      exact ⟨p5402, c5403, sg5404, p5407, c5408, sg5409, p5412, c5413, sg5414, rfl, ho5405, ho5410, ho5415, M5429.pick [2, 3, 4] (by kernel_rfl)⟩
theorem c_l_vInts (w : World) (x5494 : List Int) (p5496 : Option Addr) (c5497 : Nat) (h5498 : rdS encI w x5494 p5496 c5497) (x5499 : List Int) (p5501 : Option Addr) (c5502 : Nat) (h5503 : rdS encI w x5499 p5501 c5502) {r : Bool} (hm : M.l_vInts x5494 x5499 = some r) :
    Calls Try.prog 46 #[.slice p5496 x5494.length c5497, .slice p5501 x5499.length c5502] w fun e w' => e = .returned (.bool r) ∧ Mem [] w w' [] := by
  unfold M.l_vInts at hm
  refine C_enter Try.func46 rfl (by kernel_rfl) ?_
  have M0 := Mem.refl [] w
  refine G_seq ?_
  refine G_region ?_
  refine W_run 1 [(0, .slice p5496 x5494.length c5497), (1, .slice p5501 x5499.length c5502)] w (by kernel_rfl) ?_
  refine W_nil ?_
  refine N_then ?_
  refine G_seq ?_
  refine G_seq ?_
  refine G_region ?_
  refine W_run 5 [(0, .slice p5496 x5494.length c5497), (1, .slice p5501 x5499.length c5502), (10, .bool ((x5494.length : Int) != (x5499.length : Int)))] w (by kernel_rfl) ?_
  refine W_nil ?_
  refine N_then ?_
  rcases gx_bif hm with ⟨hc5504, hm⟩ | ⟨hc5504, hm⟩
  · refine G_cond_t (b := ((x5494.length : Int) != (x5499.length : Int))) hc5504 (by kernel_rfl) ?_
    refine G_seq ?_
    refine G_region ?_
    refine W_run 1 [(4, .bool false)] w (by kernel_rfl) ?_
    refine W_nil ?_
    refine N_then ?_
    refine G_ret ?_
    refine N_then_ret ?_
    obtain rfl := Option.some.inj hm
    refine N_ret [.bool false] (RVs_cons (RV_tmp (by kernel_rfl)) RVs_nil) ?_
    exact ⟨rfl, M0.pick [] (by kernel_rfl)⟩
  · refine G_cond_f (b := ((x5494.length : Int) != (x5499.length : Int))) hc5504 (by kernel_rfl) ?_
    refine G_skip ?_
    refine N_then ?_
    refine G_seq ?_
    refine G_seq ?_
    refine G_region ?_
    refine W_run 1 [(0, .slice p5496 x5494.length c5497), (1, .slice p5501 x5499.length c5502), (5, .int .i64 0)] w (by kernel_rfl) ?_
    refine W_nil ?_
    refine N_then ?_
    obtain ⟨out5524, hw5525, hmo5526⟩ := gx_bind hm
    refine G_meet (fun a w' => ∃ (o5527 : Unit), out5524 = .inl o5527 ∧ Mem [] w w' [] ∧ Sat Try.f46.ntmps [] a) ?_ ?_
    · refine G_block ?_
      refine G_while (σ := Int) (ρ := (Unit) ⊕ (Bool)) (fun s5517 a w' => Mem [] w w' [] ∧ Sat Try.f46.ntmps [(0, .slice p5496 x5494.length c5497), (1, .slice p5501 x5499.length c5502), (5, .int .i64 s5517)] a) hw5525 (fun a ha => ⟨M0.pick [] (by kernel_rfl), ha.sub (by kernel_rfl)⟩) ?_
      clear hm
      intro s5517 x5518 hm hout5519 a5520 w5521 ⟨M5522, hS5523⟩
      refine G_use hS5523 ?_
      refine G_seq ?_
      refine G_seq ?_
      refine G_region ?_
      refine W_run 4 [(0, .slice p5496 x5494.length c5497), (1, .slice p5501 x5499.length c5502), (5, .int .i64 s5517), (14, .bool (decide (s5517 < (x5494.length : Int))))] w5521 (by kernel_rfl) ?_
      refine W_nil ?_
      refine N_then ?_
      rcases gx_bif hm with ⟨hc5528, hm⟩ | ⟨hc5528, hm⟩
      · refine G_cond_t (b := (decide (s5517 < (x5494.length : Int)))) hc5528 (by kernel_rfl) ?_
        refine G_skip ?_
        refine N_then ?_
        refine G_seq ?_
        refine G_block ?_
        refine G_seq ?_
        refine G_quiet (by kernel_rfl) (by kernel_rfl) M5522 ?_
        refine Z_runs [.slice p5496 x5494.length c5497, .int .i64 s5517] [(0, .slice p5496 x5494.length c5497), (1, .slice p5501 x5499.length c5502), (5, .int .i64 s5517), (17, .slice p5496 x5494.length c5497), (18, .int .i64 s5517)] (fun w_ => by kernel_rfl) (by kernel_rfl) ?_
        obtain ⟨y5529, hy5529, hm⟩ := gx_bind hm
        refine Z_val (elemP p5496 (s5517.toNat * 1)) (by kernel_rfl) (fun w_ M_ => (E_index (E := encI) _ _ _ x5494.length c5497 .i64 s5517 1 (y := y5529) rfl (by kernel_rfl) (by kernel_rfl) (by kernel_rfl) (h5498.mem0 M_) rfl hy5529)) ?_
        refine Z_val (.int .i64 y5529) (by kernel_rfl) (fun w_ M_ => (E_loadE (E := encI) _ _ false 1 s5517 0 (s5517.toNat * 1) y5529 (.int .i64 y5529) rfl (by kernel_rfl) (by kernel_rfl) (by kernel_rfl) (h5498.mem0 M_) hy5529 rfl)) ?_
        refine Z_runs [.slice p5501 x5499.length c5502, .int .i64 s5517] [(0, .slice p5496 x5494.length c5497), (1, .slice p5501 x5499.length c5502), (5, .int .i64 s5517), (20, .int .i64 y5529), (21, .slice p5501 x5499.length c5502), (22, .int .i64 s5517)] (fun w_ => by kernel_rfl) (by kernel_rfl) ?_
        obtain ⟨y5530, hy5530, hm⟩ := gx_bind hm
        refine Z_val (elemP p5501 (s5517.toNat * 1)) (by kernel_rfl) (fun w_ M_ => (E_index (E := encI) _ _ _ x5499.length c5502 .i64 s5517 1 (y := y5530) rfl (by kernel_rfl) (by kernel_rfl) (by kernel_rfl) (h5503.mem0 M_) rfl hy5530)) ?_
        refine Z_val (.int .i64 y5530) (by kernel_rfl) (fun w_ M_ => (E_loadE (E := encI) _ _ false 1 s5517 0 (s5517.toNat * 1) y5530 (.int .i64 y5530) rfl (by kernel_rfl) (by kernel_rfl) (by kernel_rfl) (h5503.mem0 M_) hy5530 rfl)) ?_
        refine Z_runs [.bool (y5529 != y5530)] [(0, .slice p5496 x5494.length c5497), (1, .slice p5501 x5499.length c5502), (5, .int .i64 s5517), (25, .bool (y5529 != y5530))] (fun w_ => by kernel_rfl) (by kernel_rfl) ?_
        refine Z_end fun w5531 M5532 => ?_
        refine N_then ?_
        rcases gx_bif hm with ⟨hc5533, hm⟩ | ⟨hc5533, hm⟩
        · refine G_cond_t (b := (y5529 != y5530)) hc5533 (by kernel_rfl) ?_
          refine G_seq ?_
          refine G_region ?_
          refine W_run 1 [(4, .bool false)] w5531 (by kernel_rfl) ?_
          refine W_nil ?_
          refine N_then ?_
          refine G_ret ?_
          refine N_block_ret ?_
          refine N_then_ret ?_
          refine N_then_ret ?_
          obtain rfl := Option.some.inj hm
          obtain rfl := hout5519 _ rfl
          have hm := hmo5526; simp only [Sum.elim_inr] at hm
          refine N_block_ret ?_
          refine N_meet_ret ?_
          refine N_then_ret ?_
          obtain rfl := Option.some.inj hm
          refine N_ret [.bool false] (RVs_cons (RV_tmp (by kernel_rfl)) RVs_nil) ?_
          exact ⟨rfl, M5532.pick [] (by kernel_rfl)⟩
        · refine G_cond_f (b := (y5529 != y5530)) hc5533 (by kernel_rfl) ?_
          refine G_skip ?_
          refine N_block ?_
          refine N_then ?_
          refine G_region ?_
          refine W_run 3 [(0, .slice p5496 x5494.length c5497), (1, .slice p5501 x5499.length c5502), (5, .int .i64 (w64 (s5517 + 1)))] w5531 (by kernel_rfl) ?_
          refine W_nil ?_
          obtain rfl := Option.some.inj hm
          exact N_loop fun a ha => ⟨_, rfl, M5532.pick [] (by kernel_rfl), ha.sub (by kernel_rfl)⟩
      · refine G_cond_f (b := (decide (s5517 < (x5494.length : Int)))) hc5528 (by kernel_rfl) ?_
        refine G_exit ?_
        refine N_then_exit ?_
        refine N_then_exit ?_
        refine N_block_eq ?_
        obtain rfl := Option.some.inj hm
        obtain rfl := hout5519 _ rfl
        exact N_meet fun a ha => ⟨_, rfl, M5522.pick [] (by kernel_rfl), ha.sub (by kernel_rfl)⟩
    · intro a5534 w5535 ⟨o5527, hout_, M5536, hS5537⟩
      refine N_use hS5537 ?_
      subst hout_
      have hm := hmo5526; simp only [Sum.elim_inl] at hm
      refine N_then ?_
      refine G_seq ?_
      refine G_region ?_
      refine W_run 1 [(4, .bool true)] w5535 (by kernel_rfl) ?_
      refine W_nil ?_
      refine N_then ?_
      refine G_ret ?_
      obtain rfl := Option.some.inj hm
      refine N_ret [.bool true] (RVs_cons (RV_tmp (by kernel_rfl)) RVs_nil) ?_
      exact ⟨rfl, M5536.pick [] (by kernel_rfl)⟩
theorem c_l_vBools (w : World) (x5548 : List Bool) (p5550 : Option Addr) (c5551 : Nat) (h5552 : rdS encB w x5548 p5550 c5551) (x5553 : List Bool) (p5555 : Option Addr) (c5556 : Nat) (h5557 : rdS encB w x5553 p5555 c5556) {r : Bool} (hm : M.l_vBools x5548 x5553 = some r) :
    Calls Try.prog 87 #[.slice p5550 x5548.length c5551, .slice p5555 x5553.length c5556] w fun e w' => e = .returned (.bool r) ∧ Mem [] w w' [] := by
  unfold M.l_vBools at hm
  refine C_enter Try.func87 rfl (by kernel_rfl) ?_
  have M0 := Mem.refl [] w
  refine G_seq ?_
  refine G_region ?_
  refine W_run 1 [(0, .slice p5550 x5548.length c5551), (1, .slice p5555 x5553.length c5556)] w (by kernel_rfl) ?_
  refine W_nil ?_
  refine N_then ?_
  refine G_seq ?_
  refine G_seq ?_
  refine G_region ?_
  refine W_run 5 [(0, .slice p5550 x5548.length c5551), (1, .slice p5555 x5553.length c5556), (10, .bool ((x5548.length : Int) != (x5553.length : Int)))] w (by kernel_rfl) ?_
  refine W_nil ?_
  refine N_then ?_
  rcases gx_bif hm with ⟨hc5558, hm⟩ | ⟨hc5558, hm⟩
  · refine G_cond_t (b := ((x5548.length : Int) != (x5553.length : Int))) hc5558 (by kernel_rfl) ?_
    refine G_seq ?_
    refine G_region ?_
    refine W_run 1 [(4, .bool false)] w (by kernel_rfl) ?_
    refine W_nil ?_
    refine N_then ?_
    refine G_ret ?_
    refine N_then_ret ?_
    obtain rfl := Option.some.inj hm
    refine N_ret [.bool false] (RVs_cons (RV_tmp (by kernel_rfl)) RVs_nil) ?_
    exact ⟨rfl, M0.pick [] (by kernel_rfl)⟩
  · refine G_cond_f (b := ((x5548.length : Int) != (x5553.length : Int))) hc5558 (by kernel_rfl) ?_
    refine G_skip ?_
    refine N_then ?_
    refine G_seq ?_
    refine G_seq ?_
    refine G_region ?_
    refine W_run 1 [(0, .slice p5550 x5548.length c5551), (1, .slice p5555 x5553.length c5556), (5, .int .i64 0)] w (by kernel_rfl) ?_
    refine W_nil ?_
    refine N_then ?_
    obtain ⟨out5578, hw5579, hmo5580⟩ := gx_bind hm
    refine G_meet (fun a w' => ∃ (o5581 : Unit), out5578 = .inl o5581 ∧ Mem [] w w' [] ∧ Sat Try.f87.ntmps [] a) ?_ ?_
    · refine G_block ?_
      refine G_while (σ := Int) (ρ := (Unit) ⊕ (Bool)) (fun s5571 a w' => Mem [] w w' [] ∧ Sat Try.f87.ntmps [(0, .slice p5550 x5548.length c5551), (1, .slice p5555 x5553.length c5556), (5, .int .i64 s5571)] a) hw5579 (fun a ha => ⟨M0.pick [] (by kernel_rfl), ha.sub (by kernel_rfl)⟩) ?_
      clear hm
      intro s5571 x5572 hm hout5573 a5574 w5575 ⟨M5576, hS5577⟩
      refine G_use hS5577 ?_
      refine G_seq ?_
      refine G_seq ?_
      refine G_region ?_
      refine W_run 4 [(0, .slice p5550 x5548.length c5551), (1, .slice p5555 x5553.length c5556), (5, .int .i64 s5571), (14, .bool (decide (s5571 < (x5548.length : Int))))] w5575 (by kernel_rfl) ?_
      refine W_nil ?_
      refine N_then ?_
      rcases gx_bif hm with ⟨hc5582, hm⟩ | ⟨hc5582, hm⟩
      · refine G_cond_t (b := (decide (s5571 < (x5548.length : Int)))) hc5582 (by kernel_rfl) ?_
        refine G_skip ?_
        refine N_then ?_
        refine G_seq ?_
        refine G_block ?_
        refine G_seq ?_
        refine G_quiet (by kernel_rfl) (by kernel_rfl) M5576 ?_
        refine Z_runs [.slice p5550 x5548.length c5551, .int .i64 s5571] [(0, .slice p5550 x5548.length c5551), (1, .slice p5555 x5553.length c5556), (5, .int .i64 s5571), (17, .slice p5550 x5548.length c5551), (18, .int .i64 s5571)] (fun w_ => by kernel_rfl) (by kernel_rfl) ?_
        obtain ⟨y5583, hy5583, hm⟩ := gx_bind hm
        refine Z_val (elemP p5550 (s5571.toNat * 1)) (by kernel_rfl) (fun w_ M_ => (E_index (E := encB) _ _ _ x5548.length c5551 .i64 s5571 1 (y := y5583) rfl (by kernel_rfl) (by kernel_rfl) (by kernel_rfl) (h5552.mem0 M_) rfl hy5583)) ?_
        refine Z_val (.bool y5583) (by kernel_rfl) (fun w_ M_ => (E_loadE (E := encB) _ _ false 1 s5571 0 (s5571.toNat * 1) y5583 (.bool y5583) rfl (by kernel_rfl) (by kernel_rfl) (by kernel_rfl) (h5552.mem0 M_) hy5583 rfl)) ?_
        refine Z_runs [.slice p5555 x5553.length c5556, .int .i64 s5571] [(0, .slice p5550 x5548.length c5551), (1, .slice p5555 x5553.length c5556), (5, .int .i64 s5571), (20, .bool y5583), (21, .slice p5555 x5553.length c5556), (22, .int .i64 s5571)] (fun w_ => by kernel_rfl) (by kernel_rfl) ?_
        obtain ⟨y5584, hy5584, hm⟩ := gx_bind hm
        refine Z_val (elemP p5555 (s5571.toNat * 1)) (by kernel_rfl) (fun w_ M_ => (E_index (E := encB) _ _ _ x5553.length c5556 .i64 s5571 1 (y := y5584) rfl (by kernel_rfl) (by kernel_rfl) (by kernel_rfl) (h5557.mem0 M_) rfl hy5584)) ?_
        refine Z_val (.bool y5584) (by kernel_rfl) (fun w_ M_ => (E_loadE (E := encB) _ _ false 1 s5571 0 (s5571.toNat * 1) y5584 (.bool y5584) rfl (by kernel_rfl) (by kernel_rfl) (by kernel_rfl) (h5557.mem0 M_) hy5584 rfl)) ?_
        refine Z_runs [.bool (!(y5583 == y5584))] [(0, .slice p5550 x5548.length c5551), (1, .slice p5555 x5553.length c5556), (5, .int .i64 s5571), (25, .bool (!(y5583 == y5584)))] (fun w_ => by kernel_rfl) (by kernel_rfl) ?_
        refine Z_end fun w5585 M5586 => ?_
        refine N_then ?_
        rcases gx_bif hm with ⟨hc5587, hm⟩ | ⟨hc5587, hm⟩
        · refine G_cond_t (b := (!(y5583 == y5584))) hc5587 (by kernel_rfl) ?_
          refine G_seq ?_
          refine G_region ?_
          refine W_run 1 [(4, .bool false)] w5585 (by kernel_rfl) ?_
          refine W_nil ?_
          refine N_then ?_
          refine G_ret ?_
          refine N_block_ret ?_
          refine N_then_ret ?_
          refine N_then_ret ?_
          obtain rfl := Option.some.inj hm
          obtain rfl := hout5573 _ rfl
          have hm := hmo5580; simp only [Sum.elim_inr] at hm
          refine N_block_ret ?_
          refine N_meet_ret ?_
          refine N_then_ret ?_
          obtain rfl := Option.some.inj hm
          refine N_ret [.bool false] (RVs_cons (RV_tmp (by kernel_rfl)) RVs_nil) ?_
          exact ⟨rfl, M5586.pick [] (by kernel_rfl)⟩
        · refine G_cond_f (b := (!(y5583 == y5584))) hc5587 (by kernel_rfl) ?_
          refine G_skip ?_
          refine N_block ?_
          refine N_then ?_
          refine G_region ?_
          refine W_run 3 [(0, .slice p5550 x5548.length c5551), (1, .slice p5555 x5553.length c5556), (5, .int .i64 (w64 (s5571 + 1)))] w5585 (by kernel_rfl) ?_
          refine W_nil ?_
          obtain rfl := Option.some.inj hm
          exact N_loop fun a ha => ⟨_, rfl, M5586.pick [] (by kernel_rfl), ha.sub (by kernel_rfl)⟩
      · refine G_cond_f (b := (decide (s5571 < (x5548.length : Int)))) hc5582 (by kernel_rfl) ?_
        refine G_exit ?_
        refine N_then_exit ?_
        refine N_then_exit ?_
        refine N_block_eq ?_
        obtain rfl := Option.some.inj hm
        obtain rfl := hout5573 _ rfl
        exact N_meet fun a ha => ⟨_, rfl, M5576.pick [] (by kernel_rfl), ha.sub (by kernel_rfl)⟩
    · intro a5588 w5589 ⟨o5581, hout_, M5590, hS5591⟩
      refine N_use hS5591 ?_
      subst hout_
      have hm := hmo5580; simp only [Sum.elim_inl] at hm
      refine N_then ?_
      refine G_seq ?_
      refine G_region ?_
      refine W_run 1 [(4, .bool true)] w5589 (by kernel_rfl) ?_
      refine W_nil ?_
      refine N_then ?_
      refine G_ret ?_
      obtain rfl := Option.some.inj hm
      refine N_ret [.bool true] (RVs_cons (RV_tmp (by kernel_rfl)) RVs_nil) ?_
      exact ⟨rfl, M5590.pick [] (by kernel_rfl)⟩
theorem c_l_vCopying (w : World) (x5460 : Copying) (p5462 : Option Addr) (c5463 : Nat) (h5464 : rdS encI w x5460.Memory p5462 c5463) (p5466 : Option Addr) (c5467 : Nat) (h5468 : rdS encI w x5460.Copy p5466 c5467) (p5470 : Option Addr) (c5471 : Nat) (h5472 : rdS encB w x5460.Dirty p5470 c5471) (x5473 : Copying) (p5475 : Option Addr) (c5476 : Nat) (h5477 : rdS encI w x5473.Memory p5475 c5476) (p5479 : Option Addr) (c5480 : Nat) (h5481 : rdS encI w x5473.Copy p5479 c5480) (p5483 : Option Addr) (c5484 : Nat) (h5485 : rdS encB w x5473.Dirty p5483 c5484) {r : Bool} (hm : M.l_vCopying x5460 x5473 = some r) :
    Calls Try.prog 45 #[.agg #[.slice p5462 x5460.Memory.length c5463, .slice p5466 x5460.Copy.length c5467, .slice p5470 x5460.Dirty.length c5471], .agg #[.slice p5475 x5473.Memory.length c5476, .slice p5479 x5473.Copy.length c5480, .slice p5483 x5473.Dirty.length c5484]] w fun e w' => e = .returned (.bool r) ∧ Mem [] w w' [] := by
  unfold M.l_vCopying at hm
  refine C_enter Try.func45 rfl (by kernel_rfl) ?_
  have M0 := Mem.refl [] w
  refine G_seq ?_
  refine G_region ?_
  refine W_new (fun b => .pointer (some ⟨b, 0, none⟩)) (.cells ⟨[.slice p5462 x5460.Memory.length c5463, .slice p5466 x5460.Copy.length c5467, .slice p5470 x5460.Dirty.length c5471]⟩ 28 (0, 0)) M0 rfl (by kernel_rfl) (by kernel_rfl) ?_
  intro b5487 w5488 M5489
  refine W_new (fun b => .pointer (some ⟨b, 0, none⟩)) (.cells ⟨[.slice p5475 x5473.Memory.length c5476, .slice p5479 x5473.Copy.length c5480, .slice p5483 x5473.Dirty.length c5484]⟩ 28 (0, 0)) M5489 rfl (by kernel_rfl) (by kernel_rfl) ?_
  intro b5491 w5492 M5493
  refine W_run 1 [(2, .pointer (some ⟨b5487, 0, none⟩)), (3, .pointer (some ⟨b5491, 0, none⟩))] w5492 (by kernel_rfl) ?_
  refine W_nil ?_
  refine N_then ?_
  refine G_seq ?_
  obtain ⟨o5596, ho5597, hm5598⟩ := gx_bind hm
  refine G_meet (fun a w' => Mem [] w w' [] ∧ Sat Try.f45.ntmps [(4, .bool o5596)] a) ?_ ?_
  · have hm := ho5597
    refine G_region ?_
    refine W_run 1 [(2, .pointer (some ⟨b5487, 0, none⟩)), (3, .pointer (some ⟨b5491, 0, none⟩)), (5, .pointer (some ⟨b5487, 0, none⟩))] w5492 (by kernel_rfl) ?_
    refine W_val (.slice p5462 x5460.Memory.length c5463) w5492 (by kernel_rfl) (E_load (e := 28) (fr := (0, 0)) _ _ false 1 b5487 0 [.slice p5462 x5460.Memory.length c5463, .slice p5466 x5460.Copy.length c5467, .slice p5470 x5460.Dirty.length c5471] (.slice p5462 x5460.Memory.length c5463) rfl (by kernel_rfl) (by kernel_rfl) (by kernel_rfl) (M5493.blk 0 (b := b5487) (o := .cells ⟨[.slice p5462 x5460.Memory.length c5463, .slice p5466 x5460.Copy.length c5467, .slice p5470 x5460.Dirty.length c5471]⟩ 28 (0, 0)) (by kernel_rfl))) ?_
    refine W_run 1 [(2, .pointer (some ⟨b5487, 0, none⟩)), (3, .pointer (some ⟨b5491, 0, none⟩)), (6, .slice p5462 x5460.Memory.length c5463), (7, .pointer (some ⟨b5491, 0, none⟩))] w5492 (by kernel_rfl) ?_
    refine W_val (.slice p5475 x5473.Memory.length c5476) w5492 (by kernel_rfl) (E_load (e := 28) (fr := (0, 0)) _ _ false 1 b5491 0 [.slice p5475 x5473.Memory.length c5476, .slice p5479 x5473.Copy.length c5480, .slice p5483 x5473.Dirty.length c5484] (.slice p5475 x5473.Memory.length c5476) rfl (by kernel_rfl) (by kernel_rfl) (by kernel_rfl) (M5493.blk 1 (b := b5491) (o := .cells ⟨[.slice p5475 x5473.Memory.length c5476, .slice p5479 x5473.Copy.length c5480, .slice p5483 x5473.Dirty.length c5484]⟩ 28 (0, 0)) (by kernel_rfl))) ?_
    obtain ⟨r5599, hr5599, hm⟩ := gx_bind hm
    refine W_call 46 #[.slice p5462 x5460.Memory.length c5463, .slice p5475 x5473.Memory.length c5476] (by kernel_rfl) (by kernel_rfl) ?_
    refine (c_l_vInts w5492 x5460.Memory p5462 c5463 (h5464.mem0 M5493) x5473.Memory p5475 c5476 (h5477.mem0 M5493) hr5599).mono ?_
    rintro e_ w5600 ⟨rfl, K5601⟩
    have M5602 := M5493.call0 K5601
    refine ⟨_, rfl, ?_⟩
    refine W_run 1 [(2, .pointer (some ⟨b5487, 0, none⟩)), (3, .pointer (some ⟨b5491, 0, none⟩)), (10, .bool r5599)] w5600 (by kernel_rfl) ?_
    rcases gx_bif hm with ⟨hc5603, hm⟩ | ⟨hc5603, hm⟩
    · refine W_known 10 true (by kernel_rfl) hc5603 ?_
      refine W_run 1 [(2, .pointer (some ⟨b5487, 0, none⟩)), (3, .pointer (some ⟨b5491, 0, none⟩)), (10, .bool true), (11, .pointer (some ⟨b5487, 1, none⟩))] w5600 (by kernel_rfl) ?_
      refine W_val (.slice p5466 x5460.Copy.length c5467) w5600 (by kernel_rfl) (E_load (e := 28) (fr := (0, 0)) _ _ false 1 b5487 1 [.slice p5462 x5460.Memory.length c5463, .slice p5466 x5460.Copy.length c5467, .slice p5470 x5460.Dirty.length c5471] (.slice p5466 x5460.Copy.length c5467) rfl (by kernel_rfl) (by kernel_rfl) (by kernel_rfl) (M5602.blk 0 (b := b5487) (o := .cells ⟨[.slice p5462 x5460.Memory.length c5463, .slice p5466 x5460.Copy.length c5467, .slice p5470 x5460.Dirty.length c5471]⟩ 28 (0, 0)) (by kernel_rfl))) ?_
      refine W_run 1 [(2, .pointer (some ⟨b5487, 0, none⟩)), (3, .pointer (some ⟨b5491, 0, none⟩)), (10, .bool true), (12, .slice p5466 x5460.Copy.length c5467), (13, .pointer (some ⟨b5491, 1, none⟩))] w5600 (by kernel_rfl) ?_
      refine W_val (.slice p5479 x5473.Copy.length c5480) w5600 (by kernel_rfl) (E_load (e := 28) (fr := (0, 0)) _ _ false 1 b5491 1 [.slice p5475 x5473.Memory.length c5476, .slice p5479 x5473.Copy.length c5480, .slice p5483 x5473.Dirty.length c5484] (.slice p5479 x5473.Copy.length c5480) rfl (by kernel_rfl) (by kernel_rfl) (by kernel_rfl) (M5602.blk 1 (b := b5491) (o := .cells ⟨[.slice p5475 x5473.Memory.length c5476, .slice p5479 x5473.Copy.length c5480, .slice p5483 x5473.Dirty.length c5484]⟩ 28 (0, 0)) (by kernel_rfl))) ?_
      obtain ⟨r5604, hr5604, hm⟩ := gx_bind hm
      refine W_call 46 #[.slice p5466 x5460.Copy.length c5467, .slice p5479 x5473.Copy.length c5480] (by kernel_rfl) (by kernel_rfl) ?_
      refine (c_l_vInts w5600 x5460.Copy p5466 c5467 (h5468.mem0 M5602) x5473.Copy p5479 c5480 (h5481.mem0 M5602) hr5604).mono ?_
      rintro e_ w5605 ⟨rfl, K5606⟩
      have M5607 := M5602.call0 K5606
      refine ⟨_, rfl, ?_⟩
      refine W_run 2 [(2, .pointer (some ⟨b5487, 0, none⟩)), (3, .pointer (some ⟨b5491, 0, none⟩)), (17, .bool r5604)] w5605 (by kernel_rfl) ?_
      rcases gx_bif hm with ⟨hc5608, hm⟩ | ⟨hc5608, hm⟩
      · refine W_known 17 true (by kernel_rfl) hc5608 ?_
        refine W_run 1 [(3, .pointer (some ⟨b5491, 0, none⟩)), (17, .bool true), (18, .pointer (some ⟨b5487, 2, none⟩))] w5605 (by kernel_rfl) ?_
        refine W_val (.slice p5470 x5460.Dirty.length c5471) w5605 (by kernel_rfl) (E_load (e := 28) (fr := (0, 0)) _ _ false 1 b5487 2 [.slice p5462 x5460.Memory.length c5463, .slice p5466 x5460.Copy.length c5467, .slice p5470 x5460.Dirty.length c5471] (.slice p5470 x5460.Dirty.length c5471) rfl (by kernel_rfl) (by kernel_rfl) (by kernel_rfl) (M5607.blk 0 (b := b5487) (o := .cells ⟨[.slice p5462 x5460.Memory.length c5463, .slice p5466 x5460.Copy.length c5467, .slice p5470 x5460.Dirty.length c5471]⟩ 28 (0, 0)) (by kernel_rfl))) ?_
        refine W_run 1 [(17, .bool true), (19, .slice p5470 x5460.Dirty.length c5471), (20, .pointer (some ⟨b5491, 2, none⟩))] w5605 (by kernel_rfl) ?_
        refine W_val (.slice p5483 x5473.Dirty.length c5484) w5605 (by kernel_rfl) (E_load (e := 28) (fr := (0, 0)) _ _ false 1 b5491 2 [.slice p5475 x5473.Memory.length c5476, .slice p5479 x5473.Copy.length c5480, .slice p5483 x5473.Dirty.length c5484] (.slice p5483 x5473.Dirty.length c5484) rfl (by kernel_rfl) (by kernel_rfl) (by kernel_rfl) (M5607.blk 1 (b := b5491) (o := .cells ⟨[.slice p5475 x5473.Memory.length c5476, .slice p5479 x5473.Copy.length c5480, .slice p5483 x5473.Dirty.length c5484]⟩ 28 (0, 0)) (by kernel_rfl))) ?_
        obtain ⟨r5609, hr5609, hm⟩ := gx_bind hm
        refine W_call 87 #[.slice p5470 x5460.Dirty.length c5471, .slice p5483 x5473.Dirty.length c5484] (by kernel_rfl) (by kernel_rfl) ?_
        refine (c_l_vBools w5605 x5460.Dirty p5470 c5471 (h5472.mem0 M5607) x5473.Dirty p5483 c5484 (h5485.mem0 M5607) hr5609).mono ?_
        rintro e_ w5610 ⟨rfl, K5611⟩
        have M5612 := M5607.call0 K5611
        refine ⟨_, rfl, ?_⟩
        refine W_run 2 [(4, .bool r5609)] w5610 (by kernel_rfl) ?_
        refine W_nil ?_
        obtain rfl := Option.some.inj hm
        exact N_meet fun a ha => ⟨M5612.pick [] (by kernel_rfl), ha.sub (by kernel_rfl)⟩
      · refine W_known 17 false (by kernel_rfl) hc5608 ?_
        refine W_run 7 [(4, .bool false)] w5605 (by kernel_rfl) ?_
        refine W_nil ?_
        obtain rfl := Option.some.inj hm
        exact N_meet fun a ha => ⟨M5607.pick [] (by kernel_rfl), ha.sub (by kernel_rfl)⟩
    · refine W_known 10 false (by kernel_rfl) hc5603 ?_
      refine W_run 14 [(4, .bool false)] w5600 (by kernel_rfl) ?_
      refine W_nil ?_
      obtain rfl := Option.some.inj hm
      exact N_meet fun a ha => ⟨M5602.pick [] (by kernel_rfl), ha.sub (by kernel_rfl)⟩
  · intro a5615 w5613 ⟨M5614, hS5616⟩
    refine N_use hS5616 ?_
    have hm := hm5598
    refine N_then ?_
    refine G_ret ?_
    obtain rfl := Option.some.inj hm
    refine N_ret [.bool o5596] (RVs_cons (RV_tmp (by kernel_rfl)) RVs_nil) ?_
    exact ⟨rfl, M5614.pick [] (by kernel_rfl)⟩
theorem c_i_dirtyWords (w : World) (x5664 : Copying) (p5666 : Option Addr) (c5667 : Nat) (h5668 : rdS encI w x5664.Memory p5666 c5667) (p5670 : Option Addr) (c5671 : Nat) (h5672 : rdS encI w x5664.Copy p5670 c5671) (p5674 : Option Addr) (c5675 : Nat) (h5676 : rdS encB w x5664.Dirty p5674 c5675) {r : (List Int)} (hm : M.i_dirtyWords x5664 = some r) :
    Calls Try.prog 66 #[.agg #[.slice p5666 x5664.Memory.length c5667, .slice p5670 x5664.Copy.length c5671, .slice p5674 x5664.Dirty.length c5675]] w fun e w' => ∃ (p5678 : Option Addr) (c5679 : Nat) (sg5680 : Seg), e = .returned (.slice p5678 r.length c5679) ∧ ownS encI r p5678 c5679 sg5680 ∧ Mem [] w w' [sg5680] := by
  unfold M.i_dirtyWords at hm
  refine C_enter Try.func66 rfl (by kernel_rfl) ?_
  have M0 := Mem.refl [] w
  refine G_seq ?_
  refine G_region ?_
  refine W_new (fun b => .pointer (some ⟨b, 0, none⟩)) (.cells ⟨[.slice p5666 x5664.Memory.length c5667, .slice p5670 x5664.Copy.length c5671, .slice p5674 x5664.Dirty.length c5675]⟩ 28 (0, 0)) M0 rfl (by kernel_rfl) (by kernel_rfl) ?_
  intro b5682 w5683 M5684
  refine W_run 1 [(1, .pointer (some ⟨b5682, 0, none⟩))] w5683 (by kernel_rfl) ?_
  refine W_nil ?_
  refine N_then ?_
  refine G_seq ?_
  refine G_region ?_
  refine W_lit (E := encI) ([] : List Int) 0 [] 3 M5684 (by kernel_rfl) (by kernel_rfl) (by kernel_rfl) (by kernel_rfl) (by kernel_rfl) ?_
  intro p5686 c5687 sg5688 w5689 ho5690 M5691
  refine W_run 1 [(1, .pointer (some ⟨b5682, 0, none⟩)), (3, .slice p5686 ([] : List Int).length c5687)] w5689 (by kernel_rfl) ?_
  refine W_nil ?_
  refine N_then ?_
  refine G_seq ?_
  refine G_seq ?_
  refine G_region ?_
  refine W_run 1 [(3, .slice p5686 ([] : List Int).length c5687), (7, .pointer (some ⟨b5682, 2, none⟩))] w5689 (by kernel_rfl) ?_
  refine W_val (.slice p5674 x5664.Dirty.length c5675) w5689 (by kernel_rfl) (E_load (e := 28) (fr := (0, 0)) _ _ false 1 b5682 2 [.slice p5666 x5664.Memory.length c5667, .slice p5670 x5664.Copy.length c5671, .slice p5674 x5664.Dirty.length c5675] (.slice p5674 x5664.Dirty.length c5675) rfl (by kernel_rfl) (by kernel_rfl) (by kernel_rfl) (M5691.blk 0 (b := b5682) (o := .cells ⟨[.slice p5666 x5664.Memory.length c5667, .slice p5670 x5664.Copy.length c5671, .slice p5674 x5664.Dirty.length c5675]⟩ 28 (0, 0)) (by kernel_rfl))) ?_
  refine W_run 2 [(3, .slice p5686 ([] : List Int).length c5687), (8, .slice p5674 x5664.Dirty.length c5675), (9, .int .i64 (x5664.Dirty.length : Int)), (10, .int .i64 0)] w5689 (by kernel_rfl) ?_
  refine W_nil ?_
  refine N_then ?_
  obtain ⟨out5797, hw5798, hmo5799⟩ := gx_bind hm
  refine G_meet (fun a w' => ∃ (p5806 : Option Addr), ∃ (c5807 : Nat), ∃ (sg5808 : Seg), ownS encI out5797 p5806 c5807 sg5808 ∧ Mem [] w w' [sg5808] ∧ Sat Try.f66.ntmps [(3, .slice p5806 out5797.length c5807)] a) ?_ ?_
  · refine G_block ?_
    refine G_while (σ := List Int × Int) (ρ := List Int) (fun s5790 a w' => ∃ (p5800 : Option Addr), ∃ (c5801 : Nat), ∃ (sg5802 : Seg), ownS encI s5790.1 p5800 c5801 sg5802 ∧ Mem [] w w' [sg5802] ∧ Sat Try.f66.ntmps [(3, .slice p5800 s5790.1.length c5801), (8, .slice p5674 x5664.Dirty.length c5675), (9, .int .i64 (x5664.Dirty.length : Int)), (10, .int .i64 s5790.2)] a) hw5798 (fun a ha => ⟨p5686, c5687, sg5688, ho5690, M5691.pick [1] (by kernel_rfl), ha.sub (by kernel_rfl)⟩) ?_
    clear hm
    intro s5790 x5791 hm hout5792 a5793 w5794 ⟨p5800, c5801, sg5802, ho5803, M5795, hS5796⟩
    refine G_use hS5796 ?_
    refine G_seq ?_
    refine G_region ?_
    refine W_run 1 [(3, .slice p5800 s5790.1.length c5801), (8, .slice p5674 x5664.Dirty.length c5675), (9, .int .i64 (x5664.Dirty.length : Int)), (10, .int .i64 s5790.2), (11, .bool (decide (s5790.2 < (x5664.Dirty.length : Int))))] w5794 (by kernel_rfl) ?_
    refine W_nil ?_
    refine N_then ?_
    refine G_seq ?_
    rcases gx_bif hm with ⟨hc5811, hm⟩ | ⟨hc5811, hm⟩
    · refine G_cond_t (b := (decide (s5790.2 < (x5664.Dirty.length : Int)))) hc5811 (by kernel_rfl) ?_
      refine G_skip ?_
      refine N_then ?_
      refine G_seq ?_
      refine G_block ?_
      refine G_seq ?_
      refine G_region ?_
      refine W_run 1 [(3, .slice p5800 s5790.1.length c5801), (8, .slice p5674 x5664.Dirty.length c5675), (9, .int .i64 (x5664.Dirty.length : Int)), (10, .int .i64 s5790.2), (12, .int .i64 s5790.2)] w5794 (by kernel_rfl) ?_
      obtain ⟨y5812, hy5812, hm⟩ := gx_bind hm
      refine W_val (elemP p5674 (s5790.2.toNat * 1)) w5794 (by kernel_rfl) (E_index (E := encB) _ _ _ x5664.Dirty.length c5675 .i64 s5790.2 1 (y := y5812) rfl (by kernel_rfl) (by kernel_rfl) (by kernel_rfl) (h5676.mem0 M5795) rfl hy5812) ?_
      refine W_val (.bool y5812) w5794 (by kernel_rfl) (E_loadE (E := encB) _ _ false 1 s5790.2 0 (s5790.2.toNat * 1) y5812 (.bool y5812) rfl (by kernel_rfl) (by kernel_rfl) (by kernel_rfl) (h5676.mem0 M5795) hy5812 rfl) ?_
      refine W_run 2 [(3, .slice p5800 s5790.1.length c5801), (4, .int .i64 s5790.2), (5, .bool y5812), (8, .slice p5674 x5664.Dirty.length c5675), (9, .int .i64 (x5664.Dirty.length : Int)), (10, .int .i64 s5790.2)] w5794 (by kernel_rfl) ?_
      refine W_nil ?_
      refine N_then ?_
      refine G_seq ?_
      refine G_region ?_
      refine W_run 1 [(3, .slice p5800 s5790.1.length c5801), (4, .int .i64 s5790.2), (8, .slice p5674 x5664.Dirty.length c5675), (9, .int .i64 (x5664.Dirty.length : Int)), (10, .int .i64 s5790.2), (15, .bool y5812)] w5794 (by kernel_rfl) ?_
      refine W_nil ?_
      refine N_then ?_
      obtain ⟨o5829, ho5830, hm5831⟩ := gx_bind hm
      refine G_meet (fun a w' => ∃ (p5832 : Option Addr), ∃ (c5833 : Nat), ∃ (sg5834 : Seg), ownS encI o5829 p5832 c5833 sg5834 ∧ Mem [] w w' [sg5834] ∧ Sat Try.f66.ntmps [(3, .slice p5832 o5829.length c5833), (8, .slice p5674 x5664.Dirty.length c5675), (9, .int .i64 (x5664.Dirty.length : Int)), (10, .int .i64 s5790.2)] a) ?_ ?_
      · have hm := ho5830
        rcases gx_bif hm with ⟨hc5837, hm⟩ | ⟨hc5837, hm⟩
        · refine G_cond_t (b := y5812) hc5837 (by kernel_rfl) ?_
          refine G_region ?_
          refine W_run 2 [(3, .slice p5800 s5790.1.length c5801), (8, .slice p5674 x5664.Dirty.length c5675), (9, .int .i64 (x5664.Dirty.length : Int)), (10, .int .i64 s5790.2), (16, .slice p5800 s5790.1.length c5801), (17, .int .i64 s5790.2)] w5794 (by kernel_rfl) ?_
          refine W_lit (E := encI) [s5790.2] 1 [.int .i64 s5790.2] 3 M5795 (by kernel_rfl) (by kernel_rfl) (by kernel_rfl) (by kernel_rfl) (by kernel_rfl) ?_
          intro p5838 c5839 sg5840 w5841 ho5842 M5843
          obtain ⟨ap5845, hap5845, hm⟩ := gx_bind hm
          refine W_append (E := encI) _ _ _ 8 [.int .i64 0] 0 c5839 M5843 ho5803 (by kernel_rfl) (by kernel_rfl) (by kernel_rfl) rfl (by kernel_rfl) (by kernel_rfl) (by kernel_rfl) (by kernel_rfl) (by kernel_rfl) (by kernel_rfl) (ho5842.rd M5843 1 (by kernel_rfl)) hap5845 ?_
          intro p5846 c5847 sg5848 w5849 ho5850 M5851
          refine W_run 1 [(3, .slice p5846 ap5845.length c5847), (8, .slice p5674 x5664.Dirty.length c5675), (9, .int .i64 (x5664.Dirty.length : Int)), (10, .int .i64 s5790.2)] w5849 (by kernel_rfl) ?_
          refine W_nil ?_
          obtain rfl := Option.some.inj hm
          exact N_meet fun a ha => ⟨p5846, c5847, sg5848, ho5850, M5851.pick [0] (by kernel_rfl), ha.sub (by kernel_rfl)⟩
        · refine G_cond_f (b := y5812) hc5837 (by kernel_rfl) ?_
          refine G_skip ?_
          obtain rfl := Option.some.inj hm
          exact N_meet fun a ha => ⟨p5800, c5801, sg5802, ho5803, M5795.pick [0] (by kernel_rfl), ha.sub (by kernel_rfl)⟩
      · intro a5855 w5853 ⟨p5832, c5833, sg5834, ho5835, M5854, hS5856⟩
        refine N_use hS5856 ?_
        have hm := hm5831
        refine N_block ?_
        refine N_then ?_
        refine G_region ?_
        refine W_run 2 [(3, .slice p5832 o5829.length c5833), (8, .slice p5674 x5664.Dirty.length c5675), (9, .int .i64 (x5664.Dirty.length : Int)), (10, .int .i64 (w64 (s5790.2 + 1)))] w5853 (by kernel_rfl) ?_
        refine W_nil ?_
        obtain rfl := Option.some.inj hm
        exact N_loop fun a ha => ⟨_, rfl, p5832, c5833, sg5834, ho5835, M5854.pick [0] (by kernel_rfl), ha.sub (by kernel_rfl)⟩
    · refine G_cond_f (b := (decide (s5790.2 < (x5664.Dirty.length : Int)))) hc5811 (by kernel_rfl) ?_
      refine G_exit ?_
      refine N_then_exit ?_
      refine N_then_exit ?_
      refine N_block_eq ?_
      obtain rfl := Option.some.inj hm
      obtain rfl := hout5792 _ rfl
      exact N_meet fun a ha => ⟨p5800, c5801, sg5802, ho5803, M5795.pick [0] (by kernel_rfl), ha.sub (by kernel_rfl)⟩
  · intro a5857 w5858 ⟨p5806, c5807, sg5808, ho5809, M5859, hS5860⟩
    refine N_use hS5860 ?_
    have hm := hmo5799
    refine N_then ?_
    refine G_seq ?_
    refine G_region ?_
    refine W_run 2 [(2, .slice p5806 out5797.length c5807)] w5858 (by kernel_rfl) ?_
    refine W_nil ?_
    refine N_then ?_
    refine G_ret ?_
    obtain rfl := Option.some.inj hm
    refine N_ret [.slice p5806 out5797.length c5807] (RVs_cons (RV_tmp (by kernel_rfl)) RVs_nil) ?_
    exact ⟨p5806, c5807, sg5808, rfl, ho5809, M5859.pick [0] (by kernel_rfl)⟩
theorem c_i_DirtyWords (w : World) (x5636 : Copying) (p5638 : Option Addr) (c5639 : Nat) (h5640 : rdS encI w x5636.Memory p5638 c5639) (p5642 : Option Addr) (c5643 : Nat) (h5644 : rdS encI w x5636.Copy p5642 c5643) (p5646 : Option Addr) (c5647 : Nat) (h5648 : rdS encB w x5636.Dirty p5646 c5647) {r : (List Int) × Bool} (hm : M.i_DirtyWords x5636 = some r) :
    Calls Try.prog 26 #[.agg #[.slice p5638 x5636.Memory.length c5639, .slice p5642 x5636.Copy.length c5643, .slice p5646 x5636.Dirty.length c5647]] w fun e w' => ∃ (p5650 : Option Addr) (c5651 : Nat) (sg5652 : Seg), e = .returned (.tuple #[.slice p5650 r.1.length c5651, .bool r.2]) ∧ ownS encI r.1 p5650 c5651 sg5652 ∧ Mem [] w w' [sg5652] := by
  unfold M.i_DirtyWords at hm
  refine C_enter Try.func26 rfl (by kernel_rfl) ?_
  have M0 := Mem.refl [] w
  refine G_seq ?_
  refine G_region ?_
  refine W_new (fun b => .pointer (some ⟨b, 0, none⟩)) (.cells ⟨[.slice p5638 x5636.Memory.length c5639, .slice p5642 x5636.Copy.length c5643, .slice p5646 x5636.Dirty.length c5647]⟩ 28 (0, 0)) M0 rfl (by kernel_rfl) (by kernel_rfl) ?_
  intro b5654 w5655 M5656
  refine W_run 2 [(1, .pointer (some ⟨b5654, 0, none⟩))] w5655 (by kernel_rfl) ?_
  refine W_nil ?_
  refine N_then ?_
  refine G_seq ?_
  refine G_seq ?_
  refine G_region ?_
  refine W_val (.agg #[.slice p5638 x5636.Memory.length c5639, .slice p5642 x5636.Copy.length c5643, .slice p5646 x5636.Dirty.length c5647]) w5655 (by kernel_rfl) (E_load (e := 28) (fr := (0, 0)) _ _ true 3 b5654 0 [.slice p5638 x5636.Memory.length c5639, .slice p5642 x5636.Copy.length c5643, .slice p5646 x5636.Dirty.length c5647] (.agg #[.slice p5638 x5636.Memory.length c5639, .slice p5642 x5636.Copy.length c5643, .slice p5646 x5636.Dirty.length c5647]) rfl (by kernel_rfl) (by kernel_rfl) (by kernel_rfl) (M5656.blk 0 (b := b5654) (o := .cells ⟨[.slice p5638 x5636.Memory.length c5639, .slice p5642 x5636.Copy.length c5643, .slice p5646 x5636.Dirty.length c5647]⟩ 28 (0, 0)) (by kernel_rfl))) ?_
  obtain ⟨r5658, hr5658, hm⟩ := gx_bind hm
  refine W_call 16 #[.agg #[.slice p5638 x5636.Memory.length c5639, .slice p5642 x5636.Copy.length c5643, .slice p5646 x5636.Dirty.length c5647]] (by kernel_rfl) (by kernel_rfl) ?_
  refine (c_i_IsCopying w5655 x5636 p5638 c5639 (h5640.mem0 M5656) p5642 c5643 (h5644.mem0 M5656) p5646 c5647 (h5648.mem0 M5656) hr5658).mono ?_
  rintro e_ w5659 ⟨rfl, K5660⟩
  have M5661 := M5656.call0 K5660
  refine ⟨_, rfl, ?_⟩
  refine W_run 1 [(1, .pointer (some ⟨b5654, 0, none⟩)), (6, .bool (!r5658))] w5659 (by kernel_rfl) ?_
  refine W_nil ?_
  refine N_then ?_
  rcases gx_bif hm with ⟨hc5662, hm⟩ | ⟨hc5662, hm⟩
  · refine G_cond_t (b := (!r5658)) hc5662 (by kernel_rfl) ?_
    refine G_seq ?_
    refine G_region ?_
    refine W_run 2 [(2, .slice none 0 0), (3, .bool false)] w5659 (by kernel_rfl) ?_
    refine W_nil ?_
    refine N_then ?_
    refine G_ret ?_
    refine N_then_ret ?_
    obtain rfl := Option.some.inj hm
    refine N_ret [.slice none 0 0, .bool false] (RVs_cons (RV_tmp (by kernel_rfl)) (RVs_cons (RV_tmp (by kernel_rfl)) RVs_nil)) ?_
    exact ⟨none, 0, [], rfl, ownS_nil, M5661.pick [100000] (by kernel_rfl)⟩
  · refine G_cond_f (b := (!r5658)) hc5662 (by kernel_rfl) ?_
    refine G_skip ?_
    refine N_then ?_
    refine G_seq ?_
    refine G_region ?_
    refine W_val (.agg #[.slice p5638 x5636.Memory.length c5639, .slice p5642 x5636.Copy.length c5643, .slice p5646 x5636.Dirty.length c5647]) w5659 (by kernel_rfl) (E_load (e := 28) (fr := (0, 0)) _ _ true 3 b5654 0 [.slice p5638 x5636.Memory.length c5639, .slice p5642 x5636.Copy.length c5643, .slice p5646 x5636.Dirty.length c5647] (.agg #[.slice p5638 x5636.Memory.length c5639, .slice p5642 x5636.Copy.length c5643, .slice p5646 x5636.Dirty.length c5647]) rfl (by kernel_rfl) (by kernel_rfl) (by kernel_rfl) (M5661.blk 0 (b := b5654) (o := .cells ⟨[.slice p5638 x5636.Memory.length c5639, .slice p5642 x5636.Copy.length c5643, .slice p5646 x5636.Dirty.length c5647]⟩ 28 (0, 0)) (by kernel_rfl))) ?_
    obtain ⟨r5861, hr5861, hm⟩ := gx_bind hm
    refine W_call 66 #[.agg #[.slice p5638 x5636.Memory.length c5639, .slice p5642 x5636.Copy.length c5643, .slice p5646 x5636.Dirty.length c5647]] (by kernel_rfl) (by kernel_rfl) ?_
    refine (c_i_dirtyWords w5659 x5636 p5638 c5639 (h5640.mem0 M5661) p5642 c5643 (h5644.mem0 M5661) p5646 c5647 (h5648.mem0 M5661) hr5861).mono ?_
    rintro e_ w5867 ⟨p5863, c5864, sg5865, rfl, ho5866, K5868⟩
    have M5869 := M5661.call K5868
    refine ⟨_, rfl, ?_⟩
    refine W_run 2 [(2, .slice p5863 r5861.length c5864), (3, .bool true)] w5867 (by kernel_rfl) ?_
    refine W_nil ?_
    refine N_then ?_
    refine G_ret ?_
    obtain rfl := Option.some.inj hm
    refine N_ret [.slice p5863 r5861.length c5864, .bool true] (RVs_cons (RV_tmp (by kernel_rfl)) (RVs_cons (RV_tmp (by kernel_rfl)) RVs_nil)) ?_
    exact ⟨p5863, c5864, sg5865, rfl, ho5866, M5869.pick [1] (by kernel_rfl)⟩
theorem c_s_DrawStoreWord (w : World) (x5987 : List Int) (p5989 : Option Addr) (c5990 : Nat) (h5991 : rdS encU8 w x5987 p5989 c5990) {r : Copying × Store} (hm : M.s_DrawStoreWord x5987 = some r) :
    Calls Try.prog 50 #[.slice p5989 x5987.length c5990] w fun e w' => ∃ (p5993 : Option Addr) (c5994 : Nat) (sg5995 : Seg), ∃ (p5997 : Option Addr) (c5998 : Nat) (sg5999 : Seg), ∃ (p6001 : Option Addr) (c6002 : Nat) (sg6003 : Seg), e = .returned (.tuple #[.agg #[.slice p5993 r.1.Memory.length c5994, .slice p5997 r.1.Copy.length c5998, .slice p6001 r.1.Dirty.length c6002], .agg #[.int .i64 r.2.Word, .int .i64 r.2.Value]]) ∧ ownS encI r.1.Memory p5993 c5994 sg5995 ∧ ownS encI r.1.Copy p5997 c5998 sg5999 ∧ ownS encB r.1.Dirty p6001 c6002 sg6003 ∧ Mem [] w w' [sg5995, sg5999, sg6003] := by
  unfold M.s_DrawStoreWord at hm
  refine C_enter Try.func50 rfl (by kernel_rfl) ?_
  have M0 := Mem.refl [] w
  refine G_seq ?_
  refine G_region ?_
  refine W_new (fun b => .pointer (some ⟨b, 0, none⟩)) (.cells ⟨[.slice none 0 0, .slice none 0 0, .slice none 0 0]⟩ 28 (0, 0)) M0 rfl (by kernel_rfl) (by kernel_rfl) ?_
  intro b6008 w6009 M6010
  refine W_new (fun b => .pointer (some ⟨b, 0, none⟩)) (.cells ⟨[.int .i64 0, .int .i64 0]⟩ 46 (0, 0)) M6010 rfl (by kernel_rfl) (by kernel_rfl) ?_
  intro b6012 w6013 M6014
  refine W_nil ?_
  refine N_then ?_
  refine G_seq ?_
  refine G_region ?_
  refine W_run 2 [(2, .pointer (some ⟨b6008, 0, none⟩)), (3, .pointer (some ⟨b6012, 0, none⟩)), (7, .agg #[.slice p5989 x5987.length c5990, .int .i64 0, .int .u64 0])] w6013 (by kernel_rfl) ?_
  refine W_new (fun b => .pointer (some ⟨b, 0, none⟩)) (.cells ⟨[.slice p5989 x5987.length c5990, .int .i64 0, .int .u64 0]⟩ 99 (0, 0)) M6014 rfl (by kernel_rfl) (by kernel_rfl) ?_
  intro b6017 w6018 M6019
  refine W_run 1 [(2, .pointer (some ⟨b6008, 0, none⟩)), (3, .pointer (some ⟨b6012, 0, none⟩)), (4, .pointer (some ⟨b6017, 0, none⟩))] w6018 (by kernel_rfl) ?_
  refine W_nil ?_
  refine N_then ?_
  refine G_seq ?_
  refine G_region ?_
  refine W_run 1 [(2, .pointer (some ⟨b6008, 0, none⟩)), (3, .pointer (some ⟨b6012, 0, none⟩)), (4, .pointer (some ⟨b6017, 0, none⟩)), (9, .pointer (some ⟨b6017, 0, none⟩))] w6018 (by kernel_rfl) ?_
  obtain ⟨r6020, hr6020, hm⟩ := gx_bind hm
  refine W_call 84 #[.pointer (some ⟨b6017, 0, none⟩)] (by kernel_rfl) (by kernel_rfl) ?_
  refine (c_s_l1Cur_copying w6018 (⟨x5987, 0, 0⟩ : l1Cur) p5989 c5990 (h5991.mem0 M6019) b6017 (M6019.hasPick [2]) (M6019.nodupPick [2] (by kernel_rfl)) (apartX.old0 h5991 M6019 [2]) hr6020).mono ?_
  rintro e_ w6036 ⟨p6022, c6023, sg6024, p6027, c6028, sg6029, p6032, c6033, sg6034, rfl, ho6025, ho6030, ho6035, K6037⟩
  have M6038 := M6019.callF' [2] [0, 1] (by kernel_rfl) K6037
  refine ⟨_, rfl, ?_⟩
  refine W_new (fun b => .pointer (some ⟨b, 0, none⟩)) (.cells ⟨[.slice none 0 0, .slice none 0 0, .slice none 0 0]⟩ 28 (0, 0)) M6038 rfl (by kernel_rfl) (by kernel_rfl) ?_
  intro b6043 w6044 M6045
  refine W_store _ _ _ true 3 b6043 0 [.slice none 0 0, .slice none 0 0, .slice none 0 0] 28 (.agg #[.slice p6022 r6020.1.Memory.length c6023, .slice p6027 r6020.1.Copy.length c6028, .slice p6032 r6020.1.Dirty.length c6033]) 6 [.slice p6022 r6020.1.Memory.length c6023, .slice p6027 r6020.1.Copy.length c6028, .slice p6032 r6020.1.Dirty.length c6033] M6045 (by kernel_rfl) rfl (by kernel_rfl) (by kernel_rfl) (by kernel_rfl) (by kernel_rfl) (by kernel_rfl) (by kernel_rfl) (by kernel_rfl) (by kernel_rfl) ?_
  intro w6046 M6047
  refine W_nil ?_
  refine N_then ?_
  refine G_seq ?_
  obtain ⟨r6050, hr6050, hm⟩ := gx_bind hm
  have M6051 : Mem [] w w6046 ([[(b6008, .cells ⟨[.slice none 0 0, .slice none 0 0, .slice none 0 0]⟩ 28 (0, 0))], [(b6012, .cells ⟨[.int .i64 0, .int .i64 0]⟩ 46 (0, 0))], sg6024, sg6029, sg6034, [(b6043, .cells ⟨[.slice p6022 r6020.1.Memory.length c6023, .slice p6027 r6020.1.Copy.length c6028, .slice p6032 r6020.1.Dirty.length c6033]⟩ 28 (0, 0))]] ++ (List.range 6).map (fun i => ([[], [], [], [], [], [(b6017, .cells ⟨[.slice p5989 x5987.length c5990, .int .i64 r6020.2.1, .int .u64 r6020.2.2]⟩ 99 (0, 0))]] : List Seg).getD i [])) := M6047.pick [0, 1, 3, 4, 5, 6, 300000, 300001, 300002, 300003, 300004, 2] (by kernel_rfl)
  refine G_sub [(2, .pointer (some ⟨b6008, 0, none⟩)), (3, .pointer (some ⟨b6012, 0, none⟩)), (4, .pointer (some ⟨b6017, 0, none⟩)), (5, .pointer (some ⟨b6043, 0, none⟩)), (9, .pointer (some ⟨b6017, 0, none⟩)), (10, .agg #[.slice p6022 r6020.1.Memory.length c6023, .slice p6027 r6020.1.Copy.length c6028, .slice p6032 r6020.1.Dirty.length c6033])] (by kernel_rfl) ?_
  refine G_dagL 6 [[], [], [], [2], [3], [1, 4]] [[], [], [], [], [], []] [[], [], [], [], [], []] [[], [], [], [], [], []] [[], [], [], [], [], []] [[], [], [], [], [], []] (fun i => ([[], [], [], [], [], [(b6017, .cells ⟨[.slice p5989 x5987.length c5990, .int .i64 r6020.2.1, .int .u64 r6020.2.2]⟩ 99 (0, 0))]] : List Seg).getD i []) (fun i => ([fun f v s => v = (.agg #[.slice p6022 r6020.1.Memory.length c6023, .slice p6027 r6020.1.Copy.length c6028, .slice p6032 r6020.1.Dirty.length c6033] : Value) ∧ s = [], fun f v s => v = (.pointer (some ⟨b6017, 0, none⟩) : Value) ∧ s = [], fun f v s => v = (.pointer (some ⟨b6043, 0, none⟩) : Value) ∧ s = [], fun f v s => v = (.slice p6022 r6020.1.Memory.length c6023 : Value) ∧ s = [], fun f v s => v = (.int .i64 (r6020.1.Memory.length : Int) : Value) ∧ s = [], fun f v s => v = (.agg #[.int .i64 r6050.1.Word, .int .i64 r6050.1.Value] : Value) ∧ s = [(b6017, .cells ⟨[.slice p5989 x5987.length c5990, .int .i64 r6050.2.1, .int .u64 r6050.2.2]⟩ 99 (0, 0))]] : List ((Nat → Value) → Value → Seg → Prop)).getD i (fun _ _ _ => False)) (fun j f v => ∃ s, (fun i => ([fun f v s => v = (.agg #[.slice p6022 r6020.1.Memory.length c6023, .slice p6027 r6020.1.Copy.length c6028, .slice p6032 r6020.1.Dirty.length c6033] : Value) ∧ s = [], fun f v s => v = (.pointer (some ⟨b6017, 0, none⟩) : Value) ∧ s = [], fun f v s => v = (.pointer (some ⟨b6043, 0, none⟩) : Value) ∧ s = [], fun f v s => v = (.slice p6022 r6020.1.Memory.length c6023 : Value) ∧ s = [], fun f v s => v = (.int .i64 (r6020.1.Memory.length : Int) : Value) ∧ s = [], fun f v s => v = (.agg #[.int .i64 r6050.1.Word, .int .i64 r6050.1.Value] : Value) ∧ s = [(b6017, .cells ⟨[.slice p5989 x5987.length c5990, .int .i64 r6050.2.1, .int .u64 r6050.2.2]⟩ 99 (0, 0))]] : List ((Nat → Value) → Value → Seg → Prop)).getD i (fun _ _ _ => False)) j f v s) [] [0, 5] [5] (fun _ _ _ s h => ⟨s, h⟩) (by kernel_rfl) (by kernel_rfl) M6051 (by kernel_rfl) (by kernel_rfl) (by kernel_rfl) (by kernel_rfl) (allOb_cons ?_ (allOb_cons ?_ (allOb_cons ?_ (allOb_cons ?_ (allOb_cons ?_ (allOb_cons ?_ allOb_nil)))))) ?_
  · intro g6048 f6049
    intro R w6052 M6053
    refine W_val (.agg #[.slice p6022 r6020.1.Memory.length c6023, .slice p6027 r6020.1.Copy.length c6028, .slice p6032 r6020.1.Dirty.length c6033]) w6052 (by kernel_rfl) (E_load (e := 28) (fr := (0, 0)) _ _ true 3 b6043 0 [.slice p6022 r6020.1.Memory.length c6023, .slice p6027 r6020.1.Copy.length c6028, .slice p6032 r6020.1.Dirty.length c6033] (.agg #[.slice p6022 r6020.1.Memory.length c6023, .slice p6027 r6020.1.Copy.length c6028, .slice p6032 r6020.1.Dirty.length c6033]) rfl (by kernel_rfl) (by kernel_rfl) (by kernel_rfl) (M6053.blk 5 (b := b6043) (o := .cells ⟨[.slice p6022 r6020.1.Memory.length c6023, .slice p6027 r6020.1.Copy.length c6028, .slice p6032 r6020.1.Dirty.length c6033]⟩ 28 (0, 0)) (by kernel_rfl))) ?_
    exact W_nil (ob_end (.agg #[.slice p6022 r6020.1.Memory.length c6023, .slice p6027 r6020.1.Copy.length c6028, .slice p6032 r6020.1.Dirty.length c6033]) [] rfl (by kernel_rfl) ⟨by kernel_rfl, rfl⟩ M6053)
  · intro g6048 f6049
    intro R w6056 M6057
    refine W_run 1 [(12, .pointer (some ⟨b6017, 0, none⟩))] w6056 (by kernel_rfl) ?_
    exact W_nil (ob_end (.pointer (some ⟨b6017, 0, none⟩)) [] rfl (by kernel_rfl) ⟨by kernel_rfl, rfl⟩ M6057)
  · intro g6048 f6049
    intro R w6060 M6061
    refine W_run 1 [(13, .pointer (some ⟨b6043, 0, none⟩))] w6060 (by kernel_rfl) ?_
    exact W_nil (ob_end (.pointer (some ⟨b6043, 0, none⟩)) [] rfl (by kernel_rfl) ⟨by kernel_rfl, rfl⟩ M6061)
  · intro g6048 f6049
    intro v2_ hb2_
    obtain ⟨rfl, _⟩ := hb2_
    intro R w6064 M6065
    refine W_val (.slice p6022 r6020.1.Memory.length c6023) w6064 (by kernel_rfl) (E_load (e := 28) (fr := (0, 0)) _ _ false 1 b6043 0 [.slice p6022 r6020.1.Memory.length c6023, .slice p6027 r6020.1.Copy.length c6028, .slice p6032 r6020.1.Dirty.length c6033] (.slice p6022 r6020.1.Memory.length c6023) rfl (by kernel_rfl) (by kernel_rfl) (by kernel_rfl) (M6065.blk 5 (b := b6043) (o := .cells ⟨[.slice p6022 r6020.1.Memory.length c6023, .slice p6027 r6020.1.Copy.length c6028, .slice p6032 r6020.1.Dirty.length c6033]⟩ 28 (0, 0)) (by kernel_rfl))) ?_
    exact W_nil (ob_end (.slice p6022 r6020.1.Memory.length c6023) [] rfl (by kernel_rfl) ⟨by kernel_rfl, rfl⟩ M6065)
  · intro g6048 f6049
    intro v3_ hb3_
    obtain ⟨rfl, _⟩ := hb3_
    intro R w6068 M6069
    refine W_run 1 [(15, .int .i64 (r6020.1.Memory.length : Int))] w6068 (by kernel_rfl) ?_
    exact W_nil (ob_end (.int .i64 (r6020.1.Memory.length : Int)) [] rfl (by kernel_rfl) ⟨by kernel_rfl, rfl⟩ M6069)
  · intro g6048 f6049
    intro v1_ hb1_
    obtain ⟨rfl, _⟩ := hb1_
    intro v4_ hb4_
    obtain ⟨rfl, _⟩ := hb4_
    intro R w6072 M6073
    refine W_call 90 #[.pointer (some ⟨b6017, 0, none⟩), .int .i64 (r6020.1.Memory.length : Int)] (by kernel_rfl) (by kernel_rfl) ?_
    refine (c_s_l1Cur_storeIn w6072 (⟨x5987, r6020.2.1, r6020.2.2⟩ : l1Cur) p5989 c5990 (h5991.mem0 M6073) b6017 (r6020.1.Memory.length : Int) (M6073.hasPick [6]) (M6073.nodupPick [6] (by kernel_rfl)) (apartX.old0 h5991 M6073 [6]) hr6050).mono ?_
    rintro e_ w6074 ⟨rfl, K6076⟩
    refine ⟨_, rfl, ?_⟩
    exact W_nil (ob_end (.agg #[.int .i64 r6050.1.Word, .int .i64 r6050.1.Value]) [(b6017, .cells ⟨[.slice p5989 x5987.length c5990, .int .i64 r6050.2.1, .int .u64 r6050.2.2]⟩ 99 (0, 0))] rfl (by kernel_rfl) ⟨rfl, rfl⟩ (Mem.callMidF M6073 K6076))
  · intro g6048 f6049
    intro v0_ hb0_
    obtain ⟨rfl, _⟩ := hb0_
    intro v5_ hb5_
    obtain ⟨rfl, hs5_⟩ := hb5_
    intro w6077 M6078
    have M6079 : Mem [] w w6077 [[(b6008, .cells ⟨[.slice none 0 0, .slice none 0 0, .slice none 0 0]⟩ 28 (0, 0))], [(b6012, .cells ⟨[.int .i64 0, .int .i64 0]⟩ 46 (0, 0))], sg6024, sg6029, sg6034, [(b6043, .cells ⟨[.slice p6022 r6020.1.Memory.length c6023, .slice p6027 r6020.1.Copy.length c6028, .slice p6032 r6020.1.Dirty.length c6033]⟩ 28 (0, 0))], (g6048 5)] := M6078
    rw [hs5_] at M6079
    refine W_store _ _ _ true 3 b6008 0 [.slice none 0 0, .slice none 0 0, .slice none 0 0] 28 (.agg #[.slice p6022 r6020.1.Memory.length c6023, .slice p6027 r6020.1.Copy.length c6028, .slice p6032 r6020.1.Dirty.length c6033]) 0 [.slice p6022 r6020.1.Memory.length c6023, .slice p6027 r6020.1.Copy.length c6028, .slice p6032 r6020.1.Dirty.length c6033] M6079 (by kernel_rfl) rfl (by kernel_rfl) (by kernel_rfl) (by kernel_rfl) (by kernel_rfl) (by kernel_rfl) (by kernel_rfl) (by kernel_rfl) (by kernel_rfl) ?_
    intro w6080 M6081
    refine W_store _ _ _ true 2 b6012 0 [.int .i64 0, .int .i64 0] 46 (.agg #[.int .i64 r6050.1.Word, .int .i64 r6050.1.Value]) 1 [.int .i64 r6050.1.Word, .int .i64 r6050.1.Value] M6081 (by kernel_rfl) rfl (by kernel_rfl) (by kernel_rfl) (by kernel_rfl) (by kernel_rfl) (by kernel_rfl) (by kernel_rfl) (by kernel_rfl) (by kernel_rfl) ?_
    intro w6082 M6083
    refine W_nil ?_
    refine N_then ?_
    refine G_ret ?_
    obtain rfl := Option.some.inj hm
    refine N_ret [.agg #[.slice p6022 r6020.1.Memory.length c6023, .slice p6027 r6020.1.Copy.length c6028, .slice p6032 r6020.1.Dirty.length c6033], .agg #[.int .i64 r6050.1.Word, .int .i64 r6050.1.Value]] (RVs_cons (RV_cell (g := true) (k := 3) (b := b6008) (off := 0) (cs := [.slice p6022 r6020.1.Memory.length c6023, .slice p6027 r6020.1.Copy.length c6028, .slice p6032 r6020.1.Dirty.length c6033]) (e := 28) (fr := (0, 0)) (v := .agg #[.slice p6022 r6020.1.Memory.length c6023, .slice p6027 r6020.1.Copy.length c6028, .slice p6032 r6020.1.Dirty.length c6033]) (M6083.blk 0 (b := b6008) (o := .cells ⟨[.slice p6022 r6020.1.Memory.length c6023, .slice p6027 r6020.1.Copy.length c6028, .slice p6032 r6020.1.Dirty.length c6033]⟩ 28 (0, 0)) (by kernel_rfl)) (by kernel_rfl) (by kernel_rfl) (by kernel_rfl)) (RVs_cons (RV_cell (g := true) (k := 2) (b := b6012) (off := 0) (cs := [.int .i64 r6050.1.Word, .int .i64 r6050.1.Value]) (e := 46) (fr := (0, 0)) (v := .agg #[.int .i64 r6050.1.Word, .int .i64 r6050.1.Value]) (M6083.blk 1 (b := b6012) (o := .cells ⟨[.int .i64 r6050.1.Word, .int .i64 r6050.1.Value]⟩ 46 (0, 0)) (by kernel_rfl)) (by kernel_rfl) (by kernel_rfl) (by kernel_rfl)) RVs_nil)) ?_
    exact ⟨p6022, c6023, sg6024, p6027, c6028, sg6029, p6032, c6033, sg6034, rfl, ho6025, ho6030, ho6035, M6083.pick [2, 3, 4] (by kernel_rfl)⟩
theorem c_i_isStore (w : World) (x6164 : Copying) (p6166 : Option Addr) (c6167 : Nat) (h6168 : rdS encI w x6164.Memory p6166 c6167) (p6170 : Option Addr) (c6171 : Nat) (h6172 : rdS encI w x6164.Copy p6170 c6171) (p6174 : Option Addr) (c6175 : Nat) (h6176 : rdS encB w x6164.Dirty p6174 c6175) (x6177 : Store) {r : Bool} (hm : M.i_isStore x6164 x6177 = some r) :
    Calls Try.prog 70 #[.agg #[.slice p6166 x6164.Memory.length c6167, .slice p6170 x6164.Copy.length c6171, .slice p6174 x6164.Dirty.length c6175], .agg #[.int .i64 x6177.Word, .int .i64 x6177.Value]] w fun e w' => e = .returned (.bool r) ∧ Mem [] w w' [] := by
  unfold M.i_isStore at hm
  refine C_enter Try.func70 rfl (by kernel_rfl) ?_
  have M0 := Mem.refl [] w
  refine G_seq ?_
  refine G_region ?_
  refine W_new (fun b => .pointer (some ⟨b, 0, none⟩)) (.cells ⟨[.slice p6166 x6164.Memory.length c6167, .slice p6170 x6164.Copy.length c6171, .slice p6174 x6164.Dirty.length c6175]⟩ 28 (0, 0)) M0 rfl (by kernel_rfl) (by kernel_rfl) ?_
  intro b6179 w6180 M6181
  refine W_new (fun b => .pointer (some ⟨b, 0, none⟩)) (.cells ⟨[.int .i64 x6177.Word, .int .i64 x6177.Value]⟩ 46 (0, 0)) M6181 rfl (by kernel_rfl) (by kernel_rfl) ?_
  intro b6183 w6184 M6185
  refine W_run 1 [(2, .pointer (some ⟨b6179, 0, none⟩)), (3, .pointer (some ⟨b6183, 0, none⟩))] w6184 (by kernel_rfl) ?_
  refine W_nil ?_
  refine N_then ?_
  refine G_seq ?_
  obtain ⟨o6195, ho6196, hm6197⟩ := gx_bind hm
  refine G_meet (fun a w' => Mem [] w w' [] ∧ Sat Try.f70.ntmps [(4, .bool o6195)] a) ?_ ?_
  · have hm := ho6196
    refine G_region ?_
    refine W_run 1 [(2, .pointer (some ⟨b6179, 0, none⟩)), (3, .pointer (some ⟨b6183, 0, none⟩)), (5, .pointer (some ⟨b6183, 0, none⟩))] w6184 (by kernel_rfl) ?_
    refine W_val (.int .i64 x6177.Word) w6184 (by kernel_rfl) (E_load (e := 46) (fr := (0, 0)) _ _ false 1 b6183 0 [.int .i64 x6177.Word, .int .i64 x6177.Value] (.int .i64 x6177.Word) rfl (by kernel_rfl) (by kernel_rfl) (by kernel_rfl) (M6185.blk 1 (b := b6183) (o := .cells ⟨[.int .i64 x6177.Word, .int .i64 x6177.Value]⟩ 46 (0, 0)) (by kernel_rfl))) ?_
    refine W_run 1 [(3, .pointer (some ⟨b6183, 0, none⟩)), (6, .int .i64 x6177.Word), (7, .pointer (some ⟨b6179, 0, none⟩))] w6184 (by kernel_rfl) ?_
    refine W_val (.slice p6166 x6164.Memory.length c6167) w6184 (by kernel_rfl) (E_load (e := 28) (fr := (0, 0)) _ _ false 1 b6179 0 [.slice p6166 x6164.Memory.length c6167, .slice p6170 x6164.Copy.length c6171, .slice p6174 x6164.Dirty.length c6175] (.slice p6166 x6164.Memory.length c6167) rfl (by kernel_rfl) (by kernel_rfl) (by kernel_rfl) (M6185.blk 0 (b := b6179) (o := .cells ⟨[.slice p6166 x6164.Memory.length c6167, .slice p6170 x6164.Copy.length c6171, .slice p6174 x6164.Dirty.length c6175]⟩ 28 (0, 0)) (by kernel_rfl))) ?_
    refine W_run 2 [(3, .pointer (some ⟨b6183, 0, none⟩)), (6, .int .i64 x6177.Word), (10, .int .i64 (w64 ((x6164.Memory.length : Int) - 1)))] w6184 (by kernel_rfl) ?_
    obtain ⟨r6198, hr6198, hm⟩ := gx_bind hm
    refine W_call 74 #[.int .i64 x6177.Word, .int .i64 0, .int .i64 (w64 ((x6164.Memory.length : Int) - 1))] (by kernel_rfl) (by kernel_rfl) ?_
    refine (c_i_inside w6184 x6177.Word 0 (w64 ((x6164.Memory.length : Int) - 1)) hr6198).mono ?_
    rintro e_ w6199 ⟨rfl, K6200⟩
    have M6201 := M6185.call0 K6200
    refine ⟨_, rfl, ?_⟩
    refine W_run 1 [(3, .pointer (some ⟨b6183, 0, none⟩)), (12, .bool r6198)] w6199 (by kernel_rfl) ?_
    rcases gx_bif hm with ⟨hc6202, hm⟩ | ⟨hc6202, hm⟩
    · refine W_known 12 true (by kernel_rfl) hc6202 ?_
      refine W_run 1 [(12, .bool true), (13, .pointer (some ⟨b6183, 1, none⟩))] w6199 (by kernel_rfl) ?_
      refine W_val (.int .i64 x6177.Value) w6199 (by kernel_rfl) (E_load (e := 46) (fr := (0, 0)) _ _ false 1 b6183 1 [.int .i64 x6177.Word, .int .i64 x6177.Value] (.int .i64 x6177.Value) rfl (by kernel_rfl) (by kernel_rfl) (by kernel_rfl) (M6201.blk 1 (b := b6183) (o := .cells ⟨[.int .i64 x6177.Word, .int .i64 x6177.Value]⟩ 46 (0, 0)) (by kernel_rfl))) ?_
      obtain ⟨r6203, hr6203, hm⟩ := gx_bind hm
      refine W_call 94 #[.int .i64 x6177.Value] (by kernel_rfl) (by kernel_rfl) ?_
      refine (c_i_isWord16 w6199 x6177.Value hr6203).mono ?_
      rintro e_ w6204 ⟨rfl, K6205⟩
      have M6206 := M6201.call0 K6205
      refine ⟨_, rfl, ?_⟩
      refine W_run 2 [(4, .bool r6203)] w6204 (by kernel_rfl) ?_
      refine W_nil ?_
      obtain rfl := Option.some.inj hm
      exact N_meet fun a ha => ⟨M6206.pick [] (by kernel_rfl), ha.sub (by kernel_rfl)⟩
    · refine W_known 12 false (by kernel_rfl) hc6202 ?_
      refine W_run 5 [(4, .bool false)] w6199 (by kernel_rfl) ?_
      refine W_nil ?_
      obtain rfl := Option.some.inj hm
      exact N_meet fun a ha => ⟨M6201.pick [] (by kernel_rfl), ha.sub (by kernel_rfl)⟩
  · intro a6209 w6207 ⟨M6208, hS6210⟩
    refine N_use hS6210 ?_
    have hm := hm6197
    refine N_then ?_
    refine G_ret ?_
    obtain rfl := Option.some.inj hm
    refine N_ret [.bool o6195] (RVs_cons (RV_tmp (by kernel_rfl)) RVs_nil) ?_
    exact ⟨rfl, M6208.pick [] (by kernel_rfl)⟩
theorem c_i_Copying_store (w : World) (x6265 : Copying) (p6269 : Option Addr) (c6270 : Nat) (sg6271 : Seg) (ho6272 : ownS encI x6265.Memory p6269 c6270 sg6271) (p6274 : Option Addr) (c6275 : Nat) (sg6276 : Seg) (ho6277 : ownS encI x6265.Copy p6274 c6275 sg6276) (p6279 : Option Addr) (c6280 : Nat) (sg6281 : Seg) (ho6282 : ownS encB x6265.Dirty p6279 c6280 sg6281) (b6267 : Nat) (x6283 : Store) (hA : ∀ q ∈ List.flatten [[(b6267, .cells ⟨[.slice p6269 x6265.Memory.length c6270, .slice p6274 x6265.Copy.length c6275, .slice p6279 x6265.Dirty.length c6280]⟩ 28 (0, 0))], sg6271, sg6276, sg6281], w.heap[q.1]? = some q.2) (hN : (idsOf [[(b6267, .cells ⟨[.slice p6269 x6265.Memory.length c6270, .slice p6274 x6265.Copy.length c6275, .slice p6279 x6265.Dirty.length c6280]⟩ 28 (0, 0))], sg6271, sg6276, sg6281]).Nodup) {r : (List Int) × (List Int) × (List Bool)} (hm : M.i_Copying_store x6265 x6283 = some r) :
    Calls Try.prog 72 #[.pointer (some ⟨b6267, 0, none⟩), .agg #[.int .i64 x6283.Word, .int .i64 x6283.Value]] w fun e w' => ∃ (p6284 : Option Addr) (c6285 : Nat) (sg6286 : Seg), ∃ (p6287 : Option Addr) (c6288 : Nat) (sg6289 : Seg), ∃ (p6290 : Option Addr) (c6291 : Nat) (sg6292 : Seg), e = .returned (.tuple #[]) ∧ ownS encI r.1 p6284 c6285 sg6286 ∧ ownS encI r.2.1 p6287 c6288 sg6289 ∧ ownS encB r.2.2 p6290 c6291 sg6292 ∧ Mem (idsOf [[(b6267, .cells ⟨[.slice p6269 x6265.Memory.length c6270, .slice p6274 x6265.Copy.length c6275, .slice p6279 x6265.Dirty.length c6280]⟩ 28 (0, 0))], sg6271, sg6276, sg6281]) w w' [[(b6267, .cells ⟨[.slice p6284 r.1.length c6285, .slice p6287 r.2.1.length c6288, .slice p6290 r.2.2.length c6291]⟩ 28 (0, 0))], sg6286, sg6289, sg6292] := by
  unfold M.i_Copying_store at hm
  refine C_enter Try.func72 rfl (by kernel_rfl) ?_
  have M0 := Mem.start' w [[(b6267, .cells ⟨[.slice p6269 x6265.Memory.length c6270, .slice p6274 x6265.Copy.length c6275, .slice p6279 x6265.Dirty.length c6280]⟩ 28 (0, 0))], sg6271, sg6276, sg6281] hA hN
  refine G_seq ?_
  refine G_region ?_
  refine W_new (fun b => .pointer (some ⟨b, 0, none⟩)) (.cells ⟨[.int .i64 x6283.Word, .int .i64 x6283.Value]⟩ 46 (0, 0)) M0 rfl (by kernel_rfl) (by kernel_rfl) ?_
  intro b6294 w6295 M6296
  refine W_nil ?_
  refine N_then ?_
  obtain ⟨y6299, hy6299, hm⟩ := gx_bind hm
  have M6301 : Mem (idsOf [[(b6267, .cells ⟨[.slice p6269 x6265.Memory.length c6270, .slice p6274 x6265.Copy.length c6275, .slice p6279 x6265.Dirty.length c6280]⟩ 28 (0, 0))], sg6271, sg6276, sg6281]) w w6295 ([[(b6267, .cells ⟨[.slice p6269 x6265.Memory.length c6270, .slice p6274 x6265.Copy.length c6275, .slice p6279 x6265.Dirty.length c6280]⟩ 28 (0, 0))], sg6276, sg6281, [(b6294, .cells ⟨[.int .i64 x6283.Word, .int .i64 x6283.Value]⟩ 46 (0, 0))]] ++ (List.range 16).map (fun i => ([[], [], [], [], [], [], [], [], [], [], [], [], [], [], [], sg6271] : List Seg).getD i [])) := M6296.pick [0, 2, 3, 4, 300000, 300001, 300002, 300003, 300004, 300005, 300006, 300007, 300008, 300009, 300010, 300011, 300012, 300013, 300014, 1] (by kernel_rfl)
  refine G_sub [(0, .pointer (some ⟨b6267, 0, none⟩)), (1, .agg #[.int .i64 x6283.Word, .int .i64 x6283.Value]), (3, .pointer (some ⟨b6294, 0, none⟩))] (by kernel_rfl) ?_
  refine G_dagL 16 [[], [0], [1], [2], [], [4], [], [6], [7], [8], [], [10], [], [12], [3, 5], [13, 14]] [[], [], [], [], [], [], [], [], [], [], [], [], [], [], [], []] [[], [], [], [], [], [], [], [], [], [], [], [], [], [], [], []] [[], [], [], [], [], [], [], [], [], [], [], [], [], [], [], []] [[], [], [], [], [], [], [], [], [], [], [], [], [], [], [], []] [[], [], [], [], [], [], [], [], [], [], [], [], [], [], [15], []] (fun i => ([[], [], [], [], [], [], [], [], [], [], [], [], [], [], [], sg6271] : List Seg).getD i []) (fun i => ([fun f v s => v = (.pointer (some ⟨b6267, 0, none⟩) : Value) ∧ s = [], fun f v s => v = (.pointer (some ⟨b6267, 0, none⟩) : Value) ∧ s = [], fun f v s => v = (.pointer (some ⟨b6267, 0, none⟩) : Value) ∧ s = [], fun f v s => v = (.slice p6269 x6265.Memory.length c6270 : Value) ∧ s = [], fun f v s => v = (.pointer (some ⟨b6294, 0, none⟩) : Value) ∧ s = [], fun f v s => v = (.int .i64 x6283.Word : Value) ∧ s = [], fun f v s => v = (.pointer (some ⟨b6267, 0, none⟩) : Value) ∧ s = [], fun f v s => v = (.pointer (some ⟨b6267, 0, none⟩) : Value) ∧ s = [], fun f v s => v = (.pointer (some ⟨b6267, 2, none⟩) : Value) ∧ s = [], fun f v s => v = (.slice p6279 x6265.Dirty.length c6280 : Value) ∧ s = [], fun f v s => v = (.pointer (some ⟨b6294, 0, none⟩) : Value) ∧ s = [], fun f v s => v = (.int .i64 x6283.Word : Value) ∧ s = [], fun f v s => v = (.pointer (some ⟨b6294, 1, none⟩) : Value) ∧ s = [], fun f v s => v = (.int .i64 x6283.Value : Value) ∧ s = [], fun f v s => v = (elemP p6269 (x6283.Word.toNat * 1) : Value) ∧ s = [], fun f v s => v = undef ∧ ownS encI (x6265.Memory.set x6283.Word.toNat x6283.Value) p6269 c6270 s] : List ((Nat → Value) → Value → Seg → Prop)).getD i (fun _ _ _ => False)) (fun j f v => ∃ s, (fun i => ([fun f v s => v = (.pointer (some ⟨b6267, 0, none⟩) : Value) ∧ s = [], fun f v s => v = (.pointer (some ⟨b6267, 0, none⟩) : Value) ∧ s = [], fun f v s => v = (.pointer (some ⟨b6267, 0, none⟩) : Value) ∧ s = [], fun f v s => v = (.slice p6269 x6265.Memory.length c6270 : Value) ∧ s = [], fun f v s => v = (.pointer (some ⟨b6294, 0, none⟩) : Value) ∧ s = [], fun f v s => v = (.int .i64 x6283.Word : Value) ∧ s = [], fun f v s => v = (.pointer (some ⟨b6267, 0, none⟩) : Value) ∧ s = [], fun f v s => v = (.pointer (some ⟨b6267, 0, none⟩) : Value) ∧ s = [], fun f v s => v = (.pointer (some ⟨b6267, 2, none⟩) : Value) ∧ s = [], fun f v s => v = (.slice p6279 x6265.Dirty.length c6280 : Value) ∧ s = [], fun f v s => v = (.pointer (some ⟨b6294, 0, none⟩) : Value) ∧ s = [], fun f v s => v = (.int .i64 x6283.Word : Value) ∧ s = [], fun f v s => v = (.pointer (some ⟨b6294, 1, none⟩) : Value) ∧ s = [], fun f v s => v = (.int .i64 x6283.Value : Value) ∧ s = [], fun f v s => v = (elemP p6269 (x6283.Word.toNat * 1) : Value) ∧ s = [], fun f v s => v = undef ∧ ownS encI (x6265.Memory.set x6283.Word.toNat x6283.Value) p6269 c6270 s] : List ((Nat → Value) → Value → Seg → Prop)).getD i (fun _ _ _ => False)) j f v s) [] [9, 11, 15] [15] (fun _ _ _ s h => ⟨s, h⟩) (by kernel_rfl) (by kernel_rfl) M6301 (by kernel_rfl) (by kernel_rfl) (by kernel_rfl) (by kernel_rfl) (allOb_cons ?_ (allOb_cons ?_ (allOb_cons ?_ (allOb_cons ?_ (allOb_cons ?_ (allOb_cons ?_ (allOb_cons ?_ (allOb_cons ?_ (allOb_cons ?_ (allOb_cons ?_ (allOb_cons ?_ (allOb_cons ?_ (allOb_cons ?_ (allOb_cons ?_ (allOb_cons ?_ (allOb_cons ?_ allOb_nil)))))))))))))))) ?_
  · intro g6297 f6298
    intro R w6302 M6303
    refine W_run 1 [(4, .pointer (some ⟨b6267, 0, none⟩))] w6302 (by kernel_rfl) ?_
    exact W_nil (ob_end (.pointer (some ⟨b6267, 0, none⟩)) [] rfl (by kernel_rfl) ⟨by kernel_rfl, rfl⟩ M6303)
  · intro g6297 f6298
    intro v0_ hb0_
    obtain ⟨rfl, _⟩ := hb0_
    intro R w6306 M6307
    refine W_run 1 [(5, .pointer (some ⟨b6267, 0, none⟩))] w6306 (by kernel_rfl) ?_
    exact W_nil (ob_end (.pointer (some ⟨b6267, 0, none⟩)) [] rfl (by kernel_rfl) ⟨by kernel_rfl, rfl⟩ M6307)
  · intro g6297 f6298
    intro v1_ hb1_
    obtain ⟨rfl, _⟩ := hb1_
    intro R w6310 M6311
    refine W_run 1 [(6, .pointer (some ⟨b6267, 0, none⟩))] w6310 (by kernel_rfl) ?_
    exact W_nil (ob_end (.pointer (some ⟨b6267, 0, none⟩)) [] rfl (by kernel_rfl) ⟨by kernel_rfl, rfl⟩ M6311)
  · intro g6297 f6298
    intro v2_ hb2_
    obtain ⟨rfl, _⟩ := hb2_
    intro R w6314 M6315
    refine W_val (.slice p6269 x6265.Memory.length c6270) w6314 (by kernel_rfl) (E_load (e := 28) (fr := (0, 0)) _ _ false 1 b6267 0 [.slice p6269 x6265.Memory.length c6270, .slice p6274 x6265.Copy.length c6275, .slice p6279 x6265.Dirty.length c6280] (.slice p6269 x6265.Memory.length c6270) rfl (by kernel_rfl) (by kernel_rfl) (by kernel_rfl) (M6315.blk 0 (b := b6267) (o := .cells ⟨[.slice p6269 x6265.Memory.length c6270, .slice p6274 x6265.Copy.length c6275, .slice p6279 x6265.Dirty.length c6280]⟩ 28 (0, 0)) (by kernel_rfl))) ?_
    exact W_nil (ob_end (.slice p6269 x6265.Memory.length c6270) [] rfl (by kernel_rfl) ⟨by kernel_rfl, rfl⟩ M6315)
  · intro g6297 f6298
    intro R w6318 M6319
    refine W_run 1 [(8, .pointer (some ⟨b6294, 0, none⟩))] w6318 (by kernel_rfl) ?_
    exact W_nil (ob_end (.pointer (some ⟨b6294, 0, none⟩)) [] rfl (by kernel_rfl) ⟨by kernel_rfl, rfl⟩ M6319)
  · intro g6297 f6298
    intro v4_ hb4_
    obtain ⟨rfl, _⟩ := hb4_
    intro R w6322 M6323
    refine W_val (.int .i64 x6283.Word) w6322 (by kernel_rfl) (E_load (e := 46) (fr := (0, 0)) _ _ false 1 b6294 0 [.int .i64 x6283.Word, .int .i64 x6283.Value] (.int .i64 x6283.Word) rfl (by kernel_rfl) (by kernel_rfl) (by kernel_rfl) (M6323.blk 3 (b := b6294) (o := .cells ⟨[.int .i64 x6283.Word, .int .i64 x6283.Value]⟩ 46 (0, 0)) (by kernel_rfl))) ?_
    exact W_nil (ob_end (.int .i64 x6283.Word) [] rfl (by kernel_rfl) ⟨by kernel_rfl, rfl⟩ M6323)
  · intro g6297 f6298
    intro R w6326 M6327
    refine W_run 1 [(10, .pointer (some ⟨b6267, 0, none⟩))] w6326 (by kernel_rfl) ?_
    exact W_nil (ob_end (.pointer (some ⟨b6267, 0, none⟩)) [] rfl (by kernel_rfl) ⟨by kernel_rfl, rfl⟩ M6327)
  · intro g6297 f6298
    intro v6_ hb6_
    obtain ⟨rfl, _⟩ := hb6_
    intro R w6330 M6331
    refine W_run 1 [(11, .pointer (some ⟨b6267, 0, none⟩))] w6330 (by kernel_rfl) ?_
    exact W_nil (ob_end (.pointer (some ⟨b6267, 0, none⟩)) [] rfl (by kernel_rfl) ⟨by kernel_rfl, rfl⟩ M6331)
  · intro g6297 f6298
    intro v7_ hb7_
    obtain ⟨rfl, _⟩ := hb7_
    intro R w6334 M6335
    refine W_run 1 [(12, .pointer (some ⟨b6267, 2, none⟩))] w6334 (by kernel_rfl) ?_
    exact W_nil (ob_end (.pointer (some ⟨b6267, 2, none⟩)) [] rfl (by kernel_rfl) ⟨by kernel_rfl, rfl⟩ M6335)
  · intro g6297 f6298
    intro v8_ hb8_
    obtain ⟨rfl, _⟩ := hb8_
    intro R w6338 M6339
    refine W_val (.slice p6279 x6265.Dirty.length c6280) w6338 (by kernel_rfl) (E_load (e := 28) (fr := (0, 0)) _ _ false 1 b6267 2 [.slice p6269 x6265.Memory.length c6270, .slice p6274 x6265.Copy.length c6275, .slice p6279 x6265.Dirty.length c6280] (.slice p6279 x6265.Dirty.length c6280) rfl (by kernel_rfl) (by kernel_rfl) (by kernel_rfl) (M6339.blk 0 (b := b6267) (o := .cells ⟨[.slice p6269 x6265.Memory.length c6270, .slice p6274 x6265.Copy.length c6275, .slice p6279 x6265.Dirty.length c6280]⟩ 28 (0, 0)) (by kernel_rfl))) ?_
    exact W_nil (ob_end (.slice p6279 x6265.Dirty.length c6280) [] rfl (by kernel_rfl) ⟨by kernel_rfl, rfl⟩ M6339)
  · intro g6297 f6298
    intro R w6342 M6343
    refine W_run 1 [(14, .pointer (some ⟨b6294, 0, none⟩))] w6342 (by kernel_rfl) ?_
    exact W_nil (ob_end (.pointer (some ⟨b6294, 0, none⟩)) [] rfl (by kernel_rfl) ⟨by kernel_rfl, rfl⟩ M6343)
  · intro g6297 f6298
    intro v10_ hb10_
    obtain ⟨rfl, _⟩ := hb10_
    intro R w6346 M6347
    refine W_val (.int .i64 x6283.Word) w6346 (by kernel_rfl) (E_load (e := 46) (fr := (0, 0)) _ _ false 1 b6294 0 [.int .i64 x6283.Word, .int .i64 x6283.Value] (.int .i64 x6283.Word) rfl (by kernel_rfl) (by kernel_rfl) (by kernel_rfl) (M6347.blk 3 (b := b6294) (o := .cells ⟨[.int .i64 x6283.Word, .int .i64 x6283.Value]⟩ 46 (0, 0)) (by kernel_rfl))) ?_
    exact W_nil (ob_end (.int .i64 x6283.Word) [] rfl (by kernel_rfl) ⟨by kernel_rfl, rfl⟩ M6347)
  · intro g6297 f6298
    intro R w6350 M6351
    refine W_run 1 [(16, .pointer (some ⟨b6294, 1, none⟩))] w6350 (by kernel_rfl) ?_
    exact W_nil (ob_end (.pointer (some ⟨b6294, 1, none⟩)) [] rfl (by kernel_rfl) ⟨by kernel_rfl, rfl⟩ M6351)
  · intro g6297 f6298
    intro v12_ hb12_
    obtain ⟨rfl, _⟩ := hb12_
    intro R w6354 M6355
    refine W_val (.int .i64 x6283.Value) w6354 (by kernel_rfl) (E_load (e := 46) (fr := (0, 0)) _ _ false 1 b6294 1 [.int .i64 x6283.Word, .int .i64 x6283.Value] (.int .i64 x6283.Value) rfl (by kernel_rfl) (by kernel_rfl) (by kernel_rfl) (M6355.blk 3 (b := b6294) (o := .cells ⟨[.int .i64 x6283.Word, .int .i64 x6283.Value]⟩ 46 (0, 0)) (by kernel_rfl))) ?_
    exact W_nil (ob_end (.int .i64 x6283.Value) [] rfl (by kernel_rfl) ⟨by kernel_rfl, rfl⟩ M6355)
  · intro g6297 f6298
    intro v3_ hb3_
    obtain ⟨rfl, _⟩ := hb3_
    intro v5_ hb5_
    obtain ⟨rfl, _⟩ := hb5_
    intro R w6358 M6359
    refine W_val (elemP p6269 (x6283.Word.toNat * 1)) w6358 (by kernel_rfl) (E_index (E := encI) _ _ _ x6265.Memory.length c6270 .i64 x6283.Word 1 (y := y6299) rfl (by kernel_rfl) (by kernel_rfl) (by kernel_rfl) (ho6272.rd M6359 5 (by kernel_rfl)) rfl hy6299) ?_
    exact W_nil (ob_end (elemP p6269 (x6283.Word.toNat * 1)) [] rfl (by kernel_rfl) ⟨by kernel_rfl, rfl⟩ M6359)
  · intro g6297 f6298
    intro v13_ hb13_
    obtain ⟨rfl, _⟩ := hb13_
    intro v14_ hb14_
    obtain ⟨rfl, _⟩ := hb14_
    intro R w6362 M6363
    refine W_storeE (E := encI) _ _ _ false 1 x6283.Word.toNat 0 (x6283.Word.toNat * 1) y6299 x6283.Value (.int .i64 x6283.Value) 4 M6363 ho6272 (by kernel_rfl) (by kernel_rfl) rfl (by kernel_rfl) (by kernel_rfl) (by kernel_rfl) (by kernel_rfl) (by kernel_rfl) (by kernel_rfl) (by kernel_rfl) (gxIdx_spec hy6299).2 rfl ?_
    intro w6364 sg6366 ho6367 M6365
    exact W_nil (ob_none sg6366 rfl ⟨rfl, ho6367⟩ M6365)
  · intro g6297 f6298
    intro v9_ hb9_
    obtain ⟨rfl, _⟩ := hb9_
    intro v11_ hb11_
    obtain ⟨rfl, _⟩ := hb11_
    intro v15_ hb15_
    obtain ⟨rfl, ho6300⟩ := hb15_
    intro w6368 M6369
    have M6370 : Mem (idsOf [[(b6267, .cells ⟨[.slice p6269 x6265.Memory.length c6270, .slice p6274 x6265.Copy.length c6275, .slice p6279 x6265.Dirty.length c6280]⟩ 28 (0, 0))], sg6271, sg6276, sg6281]) w w6368 [[(b6267, .cells ⟨[.slice p6269 x6265.Memory.length c6270, .slice p6274 x6265.Copy.length c6275, .slice p6279 x6265.Dirty.length c6280]⟩ 28 (0, 0))], sg6276, sg6281, [(b6294, .cells ⟨[.int .i64 x6283.Word, .int .i64 x6283.Value]⟩ 46 (0, 0))], (g6297 15)] := M6369
    have M6371 : Mem (idsOf [[(b6267, .cells ⟨[.slice p6269 x6265.Memory.length c6270, .slice p6274 x6265.Copy.length c6275, .slice p6279 x6265.Dirty.length c6280]⟩ 28 (0, 0))], sg6271, sg6276, sg6281]) w w6368 [[(b6267, .cells ⟨[.slice p6269 (x6265.Memory.set x6283.Word.toNat x6283.Value).length c6270, .slice p6274 x6265.Copy.length c6275, .slice p6279 x6265.Dirty.length c6280]⟩ 28 (0, 0))], sg6276, sg6281, [(b6294, .cells ⟨[.int .i64 x6283.Word, .int .i64 x6283.Value]⟩ 46 (0, 0))], (g6297 15)] := by rw [@List.length_set _ x6265.Memory x6283.Word.toNat x6283.Value]; exact M6370
    obtain ⟨y6372, hy6372, hm⟩ := gx_bind hm
    refine W_val (elemP p6279 (x6283.Word.toNat * 1)) w6368 (by kernel_rfl) (E_index (E := encB) _ _ _ x6265.Dirty.length c6280 .i64 x6283.Word 1 (y := y6372) rfl (by kernel_rfl) (by kernel_rfl) (by kernel_rfl) (ho6282.rd M6371 2 (by kernel_rfl)) rfl hy6372) ?_
    refine W_storeE (E := encB) _ _ _ false 1 x6283.Word.toNat 0 (x6283.Word.toNat * 1) y6372 true (.bool true) 2 M6371 ho6282 (by kernel_rfl) (by kernel_rfl) rfl (by kernel_rfl) (by kernel_rfl) (by kernel_rfl) (by kernel_rfl) (by kernel_rfl) (by kernel_rfl) (by kernel_rfl) (gxIdx_spec hy6372).2 rfl ?_
    intro w6373 sg6375 ho6376 M6374
    refine W_conv 13 (.slice p6279 x6265.Dirty.length c6280) (.slice p6279 (x6265.Dirty.set x6283.Word.toNat true).length c6280) (by kernel_rfl) (by rw [@List.length_set _ x6265.Dirty x6283.Word.toNat true]) ?_
    have M6377 : Mem (idsOf [[(b6267, .cells ⟨[.slice p6269 x6265.Memory.length c6270, .slice p6274 x6265.Copy.length c6275, .slice p6279 x6265.Dirty.length c6280]⟩ 28 (0, 0))], sg6271, sg6276, sg6281]) w w6373 [[(b6267, .cells ⟨[.slice p6269 (x6265.Memory.set x6283.Word.toNat x6283.Value).length c6270, .slice p6274 x6265.Copy.length c6275, .slice p6279 (x6265.Dirty.set x6283.Word.toNat true).length c6280]⟩ 28 (0, 0))], sg6276, sg6375, [(b6294, .cells ⟨[.int .i64 x6283.Word, .int .i64 x6283.Value]⟩ 46 (0, 0))], (g6297 15)] := by rw [@List.length_set _ x6265.Dirty x6283.Word.toNat true]; exact M6374
    refine W_nil ?_
    obtain rfl := Option.some.inj hm
    refine N_end [] (RVs_nil) ?_
    exact ⟨p6269, c6270, (g6297 15), p6274, c6275, sg6276, p6279, c6280, sg6375, rfl, ho6300, ho6277, ho6376, M6377.pick [0, 4, 1, 2] (by kernel_rfl)⟩
theorem c_i_StoreWord (w : World) (x6118 : Copying) (p6120 : Option Addr) (c6121 : Nat) (h6122 : rdS encI w x6118.Memory p6120 c6121) (p6124 : Option Addr) (c6125 : Nat) (h6126 : rdS encI w x6118.Copy p6124 c6125) (p6128 : Option Addr) (c6129 : Nat) (h6130 : rdS encB w x6118.Dirty p6128 c6129) (x6131 : Store) {r : Copying × Bool} (hm : M.i_StoreWord x6118 x6131 = some r) :
    Calls Try.prog 32 #[.agg #[.slice p6120 x6118.Memory.length c6121, .slice p6124 x6118.Copy.length c6125, .slice p6128 x6118.Dirty.length c6129], .agg #[.int .i64 x6131.Word, .int .i64 x6131.Value]] w fun e w' => ∃ (p6133 : Option Addr) (c6134 : Nat) (sg6135 : Seg), ∃ (p6137 : Option Addr) (c6138 : Nat) (sg6139 : Seg), ∃ (p6141 : Option Addr) (c6142 : Nat) (sg6143 : Seg), e = .returned (.tuple #[.agg #[.slice p6133 r.1.Memory.length c6134, .slice p6137 r.1.Copy.length c6138, .slice p6141 r.1.Dirty.length c6142], .bool r.2]) ∧ ownS encI r.1.Memory p6133 c6134 sg6135 ∧ ownS encI r.1.Copy p6137 c6138 sg6139 ∧ ownS encB r.1.Dirty p6141 c6142 sg6143 ∧ Mem [] w w' [sg6135, sg6139, sg6143] := by
  unfold M.i_StoreWord at hm
  refine C_enter Try.func32 rfl (by kernel_rfl) ?_
  have M0 := Mem.refl [] w
  refine G_seq ?_
  refine G_region ?_
  refine W_new (fun b => .pointer (some ⟨b, 0, none⟩)) (.cells ⟨[.slice p6120 x6118.Memory.length c6121, .slice p6124 x6118.Copy.length c6125, .slice p6128 x6118.Dirty.length c6129]⟩ 28 (0, 0)) M0 rfl (by kernel_rfl) (by kernel_rfl) ?_
  intro b6145 w6146 M6147
  refine W_new (fun b => .pointer (some ⟨b, 0, none⟩)) (.cells ⟨[.int .i64 x6131.Word, .int .i64 x6131.Value]⟩ 46 (0, 0)) M6147 rfl (by kernel_rfl) (by kernel_rfl) ?_
  intro b6149 w6150 M6151
  refine W_new (fun b => .pointer (some ⟨b, 0, none⟩)) (.cells ⟨[.slice none 0 0, .slice none 0 0, .slice none 0 0]⟩ 28 (0, 0)) M6151 rfl (by kernel_rfl) (by kernel_rfl) ?_
  intro b6156 w6157 M6158
  refine W_run 1 [(2, .pointer (some ⟨b6145, 0, none⟩)), (3, .pointer (some ⟨b6149, 0, none⟩)), (4, .pointer (some ⟨b6156, 0, none⟩))] w6157 (by kernel_rfl) ?_
  refine W_nil ?_
  refine N_then ?_
  refine G_seq ?_
  refine G_seq ?_
  obtain ⟨o6215, ho6216, hm6217⟩ := gx_bind hm
  refine G_meet (fun a w' => Mem [] w w' [[(b6145, .cells ⟨[.slice p6120 x6118.Memory.length c6121, .slice p6124 x6118.Copy.length c6125, .slice p6128 x6118.Dirty.length c6129]⟩ 28 (0, 0))], [(b6149, .cells ⟨[.int .i64 x6131.Word, .int .i64 x6131.Value]⟩ 46 (0, 0))], [(b6156, .cells ⟨[.slice none 0 0, .slice none 0 0, .slice none 0 0]⟩ 28 (0, 0))]] ∧ Sat Try.f32.ntmps [(2, .pointer (some ⟨b6145, 0, none⟩)), (3, .pointer (some ⟨b6149, 0, none⟩)), (4, .pointer (some ⟨b6156, 0, none⟩)), (15, .bool o6215)] a) ?_ ?_
  · have hm := ho6216
    refine G_region ?_
    refine W_val (.agg #[.slice p6120 x6118.Memory.length c6121, .slice p6124 x6118.Copy.length c6125, .slice p6128 x6118.Dirty.length c6129]) w6157 (by kernel_rfl) (E_load (e := 28) (fr := (0, 0)) _ _ true 3 b6145 0 [.slice p6120 x6118.Memory.length c6121, .slice p6124 x6118.Copy.length c6125, .slice p6128 x6118.Dirty.length c6129] (.agg #[.slice p6120 x6118.Memory.length c6121, .slice p6124 x6118.Copy.length c6125, .slice p6128 x6118.Dirty.length c6129]) rfl (by kernel_rfl) (by kernel_rfl) (by kernel_rfl) (M6158.blk 0 (b := b6145) (o := .cells ⟨[.slice p6120 x6118.Memory.length c6121, .slice p6124 x6118.Copy.length c6125, .slice p6128 x6118.Dirty.length c6129]⟩ 28 (0, 0)) (by kernel_rfl))) ?_
    obtain ⟨r6218, hr6218, hm⟩ := gx_bind hm
    refine W_call 16 #[.agg #[.slice p6120 x6118.Memory.length c6121, .slice p6124 x6118.Copy.length c6125, .slice p6128 x6118.Dirty.length c6129]] (by kernel_rfl) (by kernel_rfl) ?_
    refine (c_i_IsCopying w6157 x6118 p6120 c6121 (h6122.mem0 M6158) p6124 c6125 (h6126.mem0 M6158) p6128 c6129 (h6130.mem0 M6158) hr6218).mono ?_
    rintro e_ w6219 ⟨rfl, K6220⟩
    have M6221 := M6158.call0 K6220
    refine ⟨_, rfl, ?_⟩
    refine W_run 2 [(2, .pointer (some ⟨b6145, 0, none⟩)), (3, .pointer (some ⟨b6149, 0, none⟩)), (4, .pointer (some ⟨b6156, 0, none⟩)), (10, .bool (!r6218))] w6219 (by kernel_rfl) ?_
    rcases gx_bif hm with ⟨hc6222, hm⟩ | ⟨hc6222, hm⟩
    · refine W_known 10 true (by kernel_rfl) hc6222 ?_
      refine W_run 5 [(2, .pointer (some ⟨b6145, 0, none⟩)), (3, .pointer (some ⟨b6149, 0, none⟩)), (4, .pointer (some ⟨b6156, 0, none⟩)), (15, .bool true)] w6219 (by kernel_rfl) ?_
      refine W_nil ?_
      obtain rfl := Option.some.inj hm
      exact N_meet fun a ha => ⟨M6221.pick [0, 1, 2] (by kernel_rfl), ha.sub (by kernel_rfl)⟩
    · refine W_known 10 false (by kernel_rfl) hc6222 ?_
      refine W_val (.agg #[.slice p6120 x6118.Memory.length c6121, .slice p6124 x6118.Copy.length c6125, .slice p6128 x6118.Dirty.length c6129]) w6219 (by kernel_rfl) (E_load (e := 28) (fr := (0, 0)) _ _ true 3 b6145 0 [.slice p6120 x6118.Memory.length c6121, .slice p6124 x6118.Copy.length c6125, .slice p6128 x6118.Dirty.length c6129] (.agg #[.slice p6120 x6118.Memory.length c6121, .slice p6124 x6118.Copy.length c6125, .slice p6128 x6118.Dirty.length c6129]) rfl (by kernel_rfl) (by kernel_rfl) (by kernel_rfl) (M6221.blk 0 (b := b6145) (o := .cells ⟨[.slice p6120 x6118.Memory.length c6121, .slice p6124 x6118.Copy.length c6125, .slice p6128 x6118.Dirty.length c6129]⟩ 28 (0, 0)) (by kernel_rfl))) ?_
      refine W_val (.agg #[.int .i64 x6131.Word, .int .i64 x6131.Value]) w6219 (by kernel_rfl) (E_load (e := 46) (fr := (0, 0)) _ _ true 2 b6149 0 [.int .i64 x6131.Word, .int .i64 x6131.Value] (.agg #[.int .i64 x6131.Word, .int .i64 x6131.Value]) rfl (by kernel_rfl) (by kernel_rfl) (by kernel_rfl) (M6221.blk 1 (b := b6149) (o := .cells ⟨[.int .i64 x6131.Word, .int .i64 x6131.Value]⟩ 46 (0, 0)) (by kernel_rfl))) ?_
      obtain ⟨r6223, hr6223, hm⟩ := gx_bind hm
      refine W_call 70 #[.agg #[.slice p6120 x6118.Memory.length c6121, .slice p6124 x6118.Copy.length c6125, .slice p6128 x6118.Dirty.length c6129], .agg #[.int .i64 x6131.Word, .int .i64 x6131.Value]] (by kernel_rfl) (by kernel_rfl) ?_
      refine (c_i_isStore w6219 x6118 p6120 c6121 (h6122.mem0 M6221) p6124 c6125 (h6126.mem0 M6221) p6128 c6129 (h6130.mem0 M6221) x6131 hr6223).mono ?_
      rintro e_ w6224 ⟨rfl, K6225⟩
      have M6226 := M6221.call0 K6225
      refine ⟨_, rfl, ?_⟩
      refine W_run 2 [(2, .pointer (some ⟨b6145, 0, none⟩)), (3, .pointer (some ⟨b6149, 0, none⟩)), (4, .pointer (some ⟨b6156, 0, none⟩)), (15, .bool (!r6223))] w6224 (by kernel_rfl) ?_
      refine W_nil ?_
      obtain rfl := Option.some.inj hm
      exact N_meet fun a ha => ⟨M6226.pick [0, 1, 2] (by kernel_rfl), ha.sub (by kernel_rfl)⟩
  · intro a6229 w6227 ⟨M6228, hS6230⟩
    refine N_use hS6230 ?_
    have hm := hm6217
    refine N_then ?_
    rcases gx_bif hm with ⟨hc6231, hm⟩ | ⟨hc6231, hm⟩
    · refine G_cond_t (b := o6215) hc6231 (by kernel_rfl) ?_
      refine G_seq ?_
      refine G_region ?_
      refine W_run 1 [(4, .pointer (some ⟨b6156, 0, none⟩)), (16, .agg #[.slice none 0 0, .slice none 0 0, .slice none 0 0])] w6227 (by kernel_rfl) ?_
      refine W_store _ _ _ true 3 b6156 0 [.slice none 0 0, .slice none 0 0, .slice none 0 0] 28 (.agg #[.slice none 0 0, .slice none 0 0, .slice none 0 0]) 2 [.slice none 0 0, .slice none 0 0, .slice none 0 0] M6228 (by kernel_rfl) rfl (by kernel_rfl) (by kernel_rfl) (by kernel_rfl) (by kernel_rfl) (by kernel_rfl) (by kernel_rfl) (by kernel_rfl) (by kernel_rfl) ?_
      intro w6235 M6236
      refine W_run 1 [(4, .pointer (some ⟨b6156, 0, none⟩)), (5, .bool false)] w6235 (by kernel_rfl) ?_
      refine W_nil ?_
      refine N_then ?_
      refine G_ret ?_
      refine N_then_ret ?_
      obtain rfl := Option.some.inj hm
      refine N_ret [.agg #[.slice none 0 0, .slice none 0 0, .slice none 0 0], .bool false] (RVs_cons (RV_cell (g := true) (k := 3) (b := b6156) (off := 0) (cs := [.slice none 0 0, .slice none 0 0, .slice none 0 0]) (e := 28) (fr := (0, 0)) (v := .agg #[.slice none 0 0, .slice none 0 0, .slice none 0 0]) (M6236.blk 2 (b := b6156) (o := .cells ⟨[.slice none 0 0, .slice none 0 0, .slice none 0 0]⟩ 28 (0, 0)) (by kernel_rfl)) (by kernel_rfl) (by kernel_rfl) (by kernel_rfl)) (RVs_cons (RV_tmp (by kernel_rfl)) RVs_nil)) ?_
      exact ⟨none, 0, [], none, 0, [], none, 0, [], rfl, ownS_nil, ownS_nil, ownS_nil, M6236.pick [100000, 100001, 100002] (by kernel_rfl)⟩
    · refine G_cond_f (b := o6215) hc6231 (by kernel_rfl) ?_
      refine G_skip ?_
      refine N_then ?_
      refine G_seq ?_
      refine G_region ?_
      refine W_val (.agg #[.slice p6120 x6118.Memory.length c6121, .slice p6124 x6118.Copy.length c6125, .slice p6128 x6118.Dirty.length c6129]) w6227 (by kernel_rfl) (E_load (e := 28) (fr := (0, 0)) _ _ true 3 b6145 0 [.slice p6120 x6118.Memory.length c6121, .slice p6124 x6118.Copy.length c6125, .slice p6128 x6118.Dirty.length c6129] (.agg #[.slice p6120 x6118.Memory.length c6121, .slice p6124 x6118.Copy.length c6125, .slice p6128 x6118.Dirty.length c6129]) rfl (by kernel_rfl) (by kernel_rfl) (by kernel_rfl) (M6228.blk 0 (b := b6145) (o := .cells ⟨[.slice p6120 x6118.Memory.length c6121, .slice p6124 x6118.Copy.length c6125, .slice p6128 x6118.Dirty.length c6129]⟩ 28 (0, 0)) (by kernel_rfl))) ?_
      obtain ⟨r6237, hr6237, hm⟩ := gx_bind hm
      refine W_call 71 #[.agg #[.slice p6120 x6118.Memory.length c6121, .slice p6124 x6118.Copy.length c6125, .slice p6128 x6118.Dirty.length c6129]] (by kernel_rfl) (by kernel_rfl) ?_
      refine (c_i_newCopying w6227 x6118 p6120 c6121 (h6122.mem0 M6228) p6124 c6125 (h6126.mem0 M6228) p6128 c6129 (h6130.mem0 M6228) hr6237).mono ?_
      rintro e_ w6253 ⟨p6239, c6240, sg6241, p6244, c6245, sg6246, p6249, c6250, sg6251, rfl, ho6242, ho6247, ho6252, K6254⟩
      have M6255 := M6228.call K6254
      refine ⟨_, rfl, ?_⟩
      refine W_new (fun b => .pointer (some ⟨b, 0, none⟩)) (.cells ⟨[.slice none 0 0, .slice none 0 0, .slice none 0 0]⟩ 28 (0, 0)) M6255 rfl (by kernel_rfl) (by kernel_rfl) ?_
      intro b6260 w6261 M6262
      refine W_store _ _ _ true 3 b6260 0 [.slice none 0 0, .slice none 0 0, .slice none 0 0] 28 (.agg #[.slice p6239 r6237.Memory.length c6240, .slice p6244 r6237.Copy.length c6245, .slice p6249 r6237.Dirty.length c6250]) 6 [.slice p6239 r6237.Memory.length c6240, .slice p6244 r6237.Copy.length c6245, .slice p6249 r6237.Dirty.length c6250] M6262 (by kernel_rfl) rfl (by kernel_rfl) (by kernel_rfl) (by kernel_rfl) (by kernel_rfl) (by kernel_rfl) (by kernel_rfl) (by kernel_rfl) (by kernel_rfl) ?_
      intro w6263 M6264
      refine W_nil ?_
      refine N_then ?_
      refine G_seq ?_
      refine G_region ?_
      refine W_val (.agg #[.int .i64 x6131.Word, .int .i64 x6131.Value]) w6263 (by kernel_rfl) (E_load (e := 46) (fr := (0, 0)) _ _ true 2 b6149 0 [.int .i64 x6131.Word, .int .i64 x6131.Value] (.agg #[.int .i64 x6131.Word, .int .i64 x6131.Value]) rfl (by kernel_rfl) (by kernel_rfl) (by kernel_rfl) (M6264.blk 1 (b := b6149) (o := .cells ⟨[.int .i64 x6131.Word, .int .i64 x6131.Value]⟩ 46 (0, 0)) (by kernel_rfl))) ?_
      obtain ⟨r6378, hr6378, hm⟩ := gx_bind hm
      refine W_call 72 #[.pointer (some ⟨b6260, 0, none⟩), .agg #[.int .i64 x6131.Word, .int .i64 x6131.Value]] (by kernel_rfl) (by kernel_rfl) ?_
      refine (c_i_Copying_store w6263 r6237 p6239 c6240 sg6241 ho6242 p6244 c6245 sg6246 ho6247 p6249 c6250 sg6251 ho6252 b6260 x6131 (M6264.hasPick [6, 3, 4, 5]) (M6264.nodupPick [6, 3, 4, 5] (by kernel_rfl)) hr6378).mono ?_
      rintro e_ w6394 ⟨p6380, c6381, sg6382, p6385, c6386, sg6387, p6390, c6391, sg6392, rfl, ho6383, ho6388, ho6393, K6395⟩
      have M6396 := M6264.callF' [6, 3, 4, 5] [0, 1, 2] (by kernel_rfl) K6395
      refine ⟨_, rfl, ?_⟩
      refine W_nil ?_
      refine N_then ?_
      refine G_seq ?_
      refine G_region ?_
      refine W_val (.agg #[.slice p6380 r6378.1.length c6381, .slice p6385 r6378.2.1.length c6386, .slice p6390 r6378.2.2.length c6391]) w6394 (by kernel_rfl) (E_load (e := 28) (fr := (0, 0)) _ _ true 3 b6260 0 [.slice p6380 r6378.1.length c6381, .slice p6385 r6378.2.1.length c6386, .slice p6390 r6378.2.2.length c6391] (.agg #[.slice p6380 r6378.1.length c6381, .slice p6385 r6378.2.1.length c6386, .slice p6390 r6378.2.2.length c6391]) rfl (by kernel_rfl) (by kernel_rfl) (by kernel_rfl) (M6396.blk 3 (b := b6260) (o := .cells ⟨[.slice p6380 r6378.1.length c6381, .slice p6385 r6378.2.1.length c6386, .slice p6390 r6378.2.2.length c6391]⟩ 28 (0, 0)) (by kernel_rfl))) ?_
      refine W_store _ _ _ true 3 b6156 0 [.slice none 0 0, .slice none 0 0, .slice none 0 0] 28 (.agg #[.slice p6380 r6378.1.length c6381, .slice p6385 r6378.2.1.length c6386, .slice p6390 r6378.2.2.length c6391]) 2 [.slice p6380 r6378.1.length c6381, .slice p6385 r6378.2.1.length c6386, .slice p6390 r6378.2.2.length c6391] M6396 (by kernel_rfl) rfl (by kernel_rfl) (by kernel_rfl) (by kernel_rfl) (by kernel_rfl) (by kernel_rfl) (by kernel_rfl) (by kernel_rfl) (by kernel_rfl) ?_
      intro w6397 M6398
      refine W_run 1 [(4, .pointer (some ⟨b6156, 0, none⟩)), (5, .bool true)] w6397 (by kernel_rfl) ?_
      refine W_nil ?_
      refine N_then ?_
      refine G_ret ?_
      obtain rfl := Option.some.inj hm
      refine N_ret [.agg #[.slice p6380 r6378.1.length c6381, .slice p6385 r6378.2.1.length c6386, .slice p6390 r6378.2.2.length c6391], .bool true] (RVs_cons (RV_cell (g := true) (k := 3) (b := b6156) (off := 0) (cs := [.slice p6380 r6378.1.length c6381, .slice p6385 r6378.2.1.length c6386, .slice p6390 r6378.2.2.length c6391]) (e := 28) (fr := (0, 0)) (v := .agg #[.slice p6380 r6378.1.length c6381, .slice p6385 r6378.2.1.length c6386, .slice p6390 r6378.2.2.length c6391]) (M6398.blk 2 (b := b6156) (o := .cells ⟨[.slice p6380 r6378.1.length c6381, .slice p6385 r6378.2.1.length c6386, .slice p6390 r6378.2.2.length c6391]⟩ 28 (0, 0)) (by kernel_rfl)) (by kernel_rfl) (by kernel_rfl) (by kernel_rfl)) (RVs_cons (RV_tmp (by kernel_rfl)) RVs_nil)) ?_
      exact ⟨p6380, c6381, sg6382, p6385, c6386, sg6387, p6390, c6391, sg6392, rfl, ho6383, ho6388, ho6393, M6398.pick [4, 5, 6] (by kernel_rfl)⟩
theorem c_s_StoreWord (w : World) (x6427 : Copying) (p6429 : Option Addr) (c6430 : Nat) (h6431 : rdS encI w x6427.Memory p6429 c6430) (p6433 : Option Addr) (c6434 : Nat) (h6435 : rdS encI w x6427.Copy p6433 c6434) (p6437 : Option Addr) (c6438 : Nat) (h6439 : rdS encB w x6427.Dirty p6437 c6438) (x6440 : Store) {r : Copying × Bool} (hm : M.s_StoreWord x6427 x6440 = some r) :
    Calls Try.prog 30 #[.agg #[.slice p6429 x6427.Memory.length c6430, .slice p6433 x6427.Copy.length c6434, .slice p6437 x6427.Dirty.length c6438], .agg #[.int .i64 x6440.Word, .int .i64 x6440.Value]] w fun e w' => ∃ (p6442 : Option Addr) (c6443 : Nat) (sg6444 : Seg), ∃ (p6446 : Option Addr) (c6447 : Nat) (sg6448 : Seg), ∃ (p6450 : Option Addr) (c6451 : Nat) (sg6452 : Seg), e = .returned (.tuple #[.agg #[.slice p6442 r.1.Memory.length c6443, .slice p6446 r.1.Copy.length c6447, .slice p6450 r.1.Dirty.length c6451], .bool r.2]) ∧ ownS encI r.1.Memory p6442 c6443 sg6444 ∧ ownS encI r.1.Copy p6446 c6447 sg6448 ∧ ownS encB r.1.Dirty p6450 c6451 sg6452 ∧ Mem [] w w' [sg6444, sg6448, sg6452] := by
  unfold M.s_StoreWord at hm
  refine C_enter Try.func30 rfl (by kernel_rfl) ?_
  have M0 := Mem.refl [] w
  refine G_seq ?_
  refine G_region ?_
  refine W_new (fun b => .pointer (some ⟨b, 0, none⟩)) (.cells ⟨[.slice p6429 x6427.Memory.length c6430, .slice p6433 x6427.Copy.length c6434, .slice p6437 x6427.Dirty.length c6438]⟩ 28 (0, 0)) M0 rfl (by kernel_rfl) (by kernel_rfl) ?_
  intro b6454 w6455 M6456
  refine W_new (fun b => .pointer (some ⟨b, 0, none⟩)) (.cells ⟨[.int .i64 x6440.Word, .int .i64 x6440.Value]⟩ 46 (0, 0)) M6456 rfl (by kernel_rfl) (by kernel_rfl) ?_
  intro b6458 w6459 M6460
  refine W_new (fun b => .pointer (some ⟨b, 0, none⟩)) (.cells ⟨[.slice none 0 0, .slice none 0 0, .slice none 0 0]⟩ 28 (0, 0)) M6460 rfl (by kernel_rfl) (by kernel_rfl) ?_
  intro b6465 w6466 M6467
  refine W_run 1 [(2, .pointer (some ⟨b6454, 0, none⟩)), (3, .pointer (some ⟨b6458, 0, none⟩)), (4, .pointer (some ⟨b6465, 0, none⟩))] w6466 (by kernel_rfl) ?_
  refine W_nil ?_
  refine N_then ?_
  refine G_seq ?_
  refine G_seq ?_
  obtain ⟨o6477, ho6478, hm6479⟩ := gx_bind hm
  refine G_meet (fun a w' => Mem [] w w' [[(b6454, .cells ⟨[.slice p6429 x6427.Memory.length c6430, .slice p6433 x6427.Copy.length c6434, .slice p6437 x6427.Dirty.length c6438]⟩ 28 (0, 0))], [(b6458, .cells ⟨[.int .i64 x6440.Word, .int .i64 x6440.Value]⟩ 46 (0, 0))], [(b6465, .cells ⟨[.slice none 0 0, .slice none 0 0, .slice none 0 0]⟩ 28 (0, 0))]] ∧ Sat Try.f30.ntmps [(2, .pointer (some ⟨b6454, 0, none⟩)), (3, .pointer (some ⟨b6458, 0, none⟩)), (4, .pointer (some ⟨b6465, 0, none⟩)), (14, .bool o6477)] a) ?_ ?_
  · have hm := ho6478
    refine G_region ?_
    refine W_val (.agg #[.slice p6429 x6427.Memory.length c6430, .slice p6433 x6427.Copy.length c6434, .slice p6437 x6427.Dirty.length c6438]) w6466 (by kernel_rfl) (E_load (e := 28) (fr := (0, 0)) _ _ true 3 b6454 0 [.slice p6429 x6427.Memory.length c6430, .slice p6433 x6427.Copy.length c6434, .slice p6437 x6427.Dirty.length c6438] (.agg #[.slice p6429 x6427.Memory.length c6430, .slice p6433 x6427.Copy.length c6434, .slice p6437 x6427.Dirty.length c6438]) rfl (by kernel_rfl) (by kernel_rfl) (by kernel_rfl) (M6467.blk 0 (b := b6454) (o := .cells ⟨[.slice p6429 x6427.Memory.length c6430, .slice p6433 x6427.Copy.length c6434, .slice p6437 x6427.Dirty.length c6438]⟩ 28 (0, 0)) (by kernel_rfl))) ?_
    obtain ⟨r6480, hr6480, hm⟩ := gx_bind hm
    refine W_call 56 #[.agg #[.slice p6429 x6427.Memory.length c6430, .slice p6433 x6427.Copy.length c6434, .slice p6437 x6427.Dirty.length c6438]] (by kernel_rfl) (by kernel_rfl) ?_
    refine (c_s_l19Good w6466 x6427 p6429 c6430 (h6431.mem0 M6467) p6433 c6434 (h6435.mem0 M6467) p6437 c6438 (h6439.mem0 M6467) hr6480).mono ?_
    rintro e_ w6481 ⟨rfl, K6482⟩
    have M6483 := M6467.call0 K6482
    refine ⟨_, rfl, ?_⟩
    refine W_run 2 [(2, .pointer (some ⟨b6454, 0, none⟩)), (3, .pointer (some ⟨b6458, 0, none⟩)), (4, .pointer (some ⟨b6465, 0, none⟩)), (9, .bool (!r6480))] w6481 (by kernel_rfl) ?_
    rcases gx_bif hm with ⟨hc6484, hm⟩ | ⟨hc6484, hm⟩
    · refine W_known 9 true (by kernel_rfl) hc6484 ?_
      refine W_run 5 [(2, .pointer (some ⟨b6454, 0, none⟩)), (3, .pointer (some ⟨b6458, 0, none⟩)), (4, .pointer (some ⟨b6465, 0, none⟩)), (14, .bool true)] w6481 (by kernel_rfl) ?_
      refine W_nil ?_
      obtain rfl := Option.some.inj hm
      exact N_meet fun a ha => ⟨M6483.pick [0, 1, 2] (by kernel_rfl), ha.sub (by kernel_rfl)⟩
    · refine W_known 9 false (by kernel_rfl) hc6484 ?_
      refine W_val (.agg #[.slice p6429 x6427.Memory.length c6430, .slice p6433 x6427.Copy.length c6434, .slice p6437 x6427.Dirty.length c6438]) w6481 (by kernel_rfl) (E_load (e := 28) (fr := (0, 0)) _ _ true 3 b6454 0 [.slice p6429 x6427.Memory.length c6430, .slice p6433 x6427.Copy.length c6434, .slice p6437 x6427.Dirty.length c6438] (.agg #[.slice p6429 x6427.Memory.length c6430, .slice p6433 x6427.Copy.length c6434, .slice p6437 x6427.Dirty.length c6438]) rfl (by kernel_rfl) (by kernel_rfl) (by kernel_rfl) (M6483.blk 0 (b := b6454) (o := .cells ⟨[.slice p6429 x6427.Memory.length c6430, .slice p6433 x6427.Copy.length c6434, .slice p6437 x6427.Dirty.length c6438]⟩ 28 (0, 0)) (by kernel_rfl))) ?_
      refine W_val (.agg #[.int .i64 x6440.Word, .int .i64 x6440.Value]) w6481 (by kernel_rfl) (E_load (e := 46) (fr := (0, 0)) _ _ true 2 b6458 0 [.int .i64 x6440.Word, .int .i64 x6440.Value] (.agg #[.int .i64 x6440.Word, .int .i64 x6440.Value]) rfl (by kernel_rfl) (by kernel_rfl) (by kernel_rfl) (M6483.blk 1 (b := b6458) (o := .cells ⟨[.int .i64 x6440.Word, .int .i64 x6440.Value]⟩ 46 (0, 0)) (by kernel_rfl))) ?_
      obtain ⟨r6485, hr6485, hm⟩ := gx_bind hm
      refine W_call 68 #[.agg #[.slice p6429 x6427.Memory.length c6430, .slice p6433 x6427.Copy.length c6434, .slice p6437 x6427.Dirty.length c6438], .agg #[.int .i64 x6440.Word, .int .i64 x6440.Value]] (by kernel_rfl) (by kernel_rfl) ?_
      refine (c_s_l19Store w6481 x6427 p6429 c6430 (h6431.mem0 M6483) p6433 c6434 (h6435.mem0 M6483) p6437 c6438 (h6439.mem0 M6483) x6440 hr6485).mono ?_
      rintro e_ w6486 ⟨rfl, K6487⟩
      have M6488 := M6483.call0 K6487
      refine ⟨_, rfl, ?_⟩
      refine W_run 2 [(2, .pointer (some ⟨b6454, 0, none⟩)), (3, .pointer (some ⟨b6458, 0, none⟩)), (4, .pointer (some ⟨b6465, 0, none⟩)), (14, .bool (!r6485))] w6486 (by kernel_rfl) ?_
      refine W_nil ?_
      obtain rfl := Option.some.inj hm
      exact N_meet fun a ha => ⟨M6488.pick [0, 1, 2] (by kernel_rfl), ha.sub (by kernel_rfl)⟩
  · intro a6491 w6489 ⟨M6490, hS6492⟩
    refine N_use hS6492 ?_
    have hm := hm6479
    refine N_then ?_
    rcases gx_bif hm with ⟨hc6493, hm⟩ | ⟨hc6493, hm⟩
    · refine G_cond_t (b := o6477) hc6493 (by kernel_rfl) ?_
      refine G_seq ?_
      refine G_region ?_
      refine W_run 1 [(4, .pointer (some ⟨b6465, 0, none⟩)), (15, .agg #[.slice none 0 0, .slice none 0 0, .slice none 0 0])] w6489 (by kernel_rfl) ?_
      refine W_store _ _ _ true 3 b6465 0 [.slice none 0 0, .slice none 0 0, .slice none 0 0] 28 (.agg #[.slice none 0 0, .slice none 0 0, .slice none 0 0]) 2 [.slice none 0 0, .slice none 0 0, .slice none 0 0] M6490 (by kernel_rfl) rfl (by kernel_rfl) (by kernel_rfl) (by kernel_rfl) (by kernel_rfl) (by kernel_rfl) (by kernel_rfl) (by kernel_rfl) (by kernel_rfl) ?_
      intro w6497 M6498
      refine W_run 1 [(4, .pointer (some ⟨b6465, 0, none⟩)), (5, .bool false)] w6497 (by kernel_rfl) ?_
      refine W_nil ?_
      refine N_then ?_
      refine G_ret ?_
      refine N_then_ret ?_
      obtain rfl := Option.some.inj hm
      refine N_ret [.agg #[.slice none 0 0, .slice none 0 0, .slice none 0 0], .bool false] (RVs_cons (RV_cell (g := true) (k := 3) (b := b6465) (off := 0) (cs := [.slice none 0 0, .slice none 0 0, .slice none 0 0]) (e := 28) (fr := (0, 0)) (v := .agg #[.slice none 0 0, .slice none 0 0, .slice none 0 0]) (M6498.blk 2 (b := b6465) (o := .cells ⟨[.slice none 0 0, .slice none 0 0, .slice none 0 0]⟩ 28 (0, 0)) (by kernel_rfl)) (by kernel_rfl) (by kernel_rfl) (by kernel_rfl)) (RVs_cons (RV_tmp (by kernel_rfl)) RVs_nil)) ?_
      exact ⟨none, 0, [], none, 0, [], none, 0, [], rfl, ownS_nil, ownS_nil, ownS_nil, M6498.pick [100000, 100001, 100002] (by kernel_rfl)⟩
    · refine G_cond_f (b := o6477) hc6493 (by kernel_rfl) ?_
      refine G_skip ?_
      refine N_then ?_
      refine G_seq ?_
      refine G_region ?_
      refine W_val (.agg #[.slice p6429 x6427.Memory.length c6430, .slice p6433 x6427.Copy.length c6434, .slice p6437 x6427.Dirty.length c6438]) w6489 (by kernel_rfl) (E_load (e := 28) (fr := (0, 0)) _ _ true 3 b6454 0 [.slice p6429 x6427.Memory.length c6430, .slice p6433 x6427.Copy.length c6434, .slice p6437 x6427.Dirty.length c6438] (.agg #[.slice p6429 x6427.Memory.length c6430, .slice p6433 x6427.Copy.length c6434, .slice p6437 x6427.Dirty.length c6438]) rfl (by kernel_rfl) (by kernel_rfl) (by kernel_rfl) (M6490.blk 0 (b := b6454) (o := .cells ⟨[.slice p6429 x6427.Memory.length c6430, .slice p6433 x6427.Copy.length c6434, .slice p6437 x6427.Dirty.length c6438]⟩ 28 (0, 0)) (by kernel_rfl))) ?_
      refine W_val (.agg #[.int .i64 x6440.Word, .int .i64 x6440.Value]) w6489 (by kernel_rfl) (E_load (e := 46) (fr := (0, 0)) _ _ true 2 b6458 0 [.int .i64 x6440.Word, .int .i64 x6440.Value] (.agg #[.int .i64 x6440.Word, .int .i64 x6440.Value]) rfl (by kernel_rfl) (by kernel_rfl) (by kernel_rfl) (M6490.blk 1 (b := b6458) (o := .cells ⟨[.int .i64 x6440.Word, .int .i64 x6440.Value]⟩ 46 (0, 0)) (by kernel_rfl))) ?_
      obtain ⟨r6499, hr6499, hm⟩ := gx_bind hm
      refine W_call 69 #[.agg #[.slice p6429 x6427.Memory.length c6430, .slice p6433 x6427.Copy.length c6434, .slice p6437 x6427.Dirty.length c6438], .agg #[.int .i64 x6440.Word, .int .i64 x6440.Value]] (by kernel_rfl) (by kernel_rfl) ?_
      refine (c_s_l19Write w6489 x6427 p6429 c6430 (h6431.mem0 M6490) p6433 c6434 (h6435.mem0 M6490) p6437 c6438 (h6439.mem0 M6490) x6440 hr6499).mono ?_
      rintro e_ w6515 ⟨p6501, c6502, sg6503, p6506, c6507, sg6508, p6511, c6512, sg6513, rfl, ho6504, ho6509, ho6514, K6516⟩
      have M6517 := M6490.call K6516
      refine ⟨_, rfl, ?_⟩
      refine W_store _ _ _ true 3 b6465 0 [.slice none 0 0, .slice none 0 0, .slice none 0 0] 28 (.agg #[.slice p6501 r6499.Memory.length c6502, .slice p6506 r6499.Copy.length c6507, .slice p6511 r6499.Dirty.length c6512]) 2 [.slice p6501 r6499.Memory.length c6502, .slice p6506 r6499.Copy.length c6507, .slice p6511 r6499.Dirty.length c6512] M6517 (by kernel_rfl) rfl (by kernel_rfl) (by kernel_rfl) (by kernel_rfl) (by kernel_rfl) (by kernel_rfl) (by kernel_rfl) (by kernel_rfl) (by kernel_rfl) ?_
      intro w6518 M6519
      refine W_run 1 [(4, .pointer (some ⟨b6465, 0, none⟩)), (5, .bool true)] w6518 (by kernel_rfl) ?_
      refine W_nil ?_
      refine N_then ?_
      refine G_ret ?_
      obtain rfl := Option.some.inj hm
      refine N_ret [.agg #[.slice p6501 r6499.Memory.length c6502, .slice p6506 r6499.Copy.length c6507, .slice p6511 r6499.Dirty.length c6512], .bool true] (RVs_cons (RV_cell (g := true) (k := 3) (b := b6465) (off := 0) (cs := [.slice p6501 r6499.Memory.length c6502, .slice p6506 r6499.Copy.length c6507, .slice p6511 r6499.Dirty.length c6512]) (e := 28) (fr := (0, 0)) (v := .agg #[.slice p6501 r6499.Memory.length c6502, .slice p6506 r6499.Copy.length c6507, .slice p6511 r6499.Dirty.length c6512]) (M6519.blk 2 (b := b6465) (o := .cells ⟨[.slice p6501 r6499.Memory.length c6502, .slice p6506 r6499.Copy.length c6507, .slice p6511 r6499.Dirty.length c6512]⟩ 28 (0, 0)) (by kernel_rfl)) (by kernel_rfl) (by kernel_rfl) (by kernel_rfl)) (RVs_cons (RV_tmp (by kernel_rfl)) RVs_nil)) ?_
      exact ⟨p6501, c6502, sg6503, p6506, c6507, sg6508, p6511, c6512, sg6513, rfl, ho6504, ho6509, ho6514, M6519.pick [3, 4, 5] (by kernel_rfl)⟩
theorem c_l_vHas (w : World) (x6579 : List Int) (p6581 : Option Addr) (c6582 : Nat) (h6583 : rdS encI w x6579 p6581 c6582) (x6584 : Int) {r : Bool} (hm : M.l_vHas x6579 x6584 = some r) :
    Calls Try.prog 51 #[.slice p6581 x6579.length c6582, .int .i64 x6584] w fun e w' => e = .returned (.bool r) ∧ Mem [] w w' [] := by
  unfold M.l_vHas at hm
  refine C_enter Try.func51 rfl (by kernel_rfl) ?_
  have M0 := Mem.refl [] w
  refine G_seq ?_
  refine G_region ?_
  refine W_run 1 [(0, .slice p6581 x6579.length c6582), (1, .int .i64 x6584)] w (by kernel_rfl) ?_
  refine W_nil ?_
  refine N_then ?_
  refine G_seq ?_
  refine G_seq ?_
  refine G_region ?_
  refine W_run 1 [(0, .slice p6581 x6579.length c6582), (1, .int .i64 x6584), (5, .int .i64 0)] w (by kernel_rfl) ?_
  refine W_nil ?_
  refine N_then ?_
  obtain ⟨out6598, hw6599, hmo6600⟩ := gx_bind hm
  refine G_meet (fun a w' => ∃ (o6601 : Unit), out6598 = .inl o6601 ∧ Mem [] w w' [] ∧ Sat Try.f51.ntmps [] a) ?_ ?_
  · refine G_block ?_
    refine G_while (σ := Int) (ρ := (Unit) ⊕ (Bool)) (fun s6591 a w' => Mem [] w w' [] ∧ Sat Try.f51.ntmps [(0, .slice p6581 x6579.length c6582), (1, .int .i64 x6584), (5, .int .i64 s6591)] a) hw6599 (fun a ha => ⟨M0.pick [] (by kernel_rfl), ha.sub (by kernel_rfl)⟩) ?_
    clear hm
    intro s6591 x6592 hm hout6593 a6594 w6595 ⟨M6596, hS6597⟩
    refine G_use hS6597 ?_
    refine G_seq ?_
    refine G_seq ?_
    refine G_region ?_
    refine W_run 4 [(0, .slice p6581 x6579.length c6582), (1, .int .i64 x6584), (5, .int .i64 s6591), (9, .bool (decide (s6591 < (x6579.length : Int))))] w6595 (by kernel_rfl) ?_
    refine W_nil ?_
    refine N_then ?_
    rcases gx_bif hm with ⟨hc6602, hm⟩ | ⟨hc6602, hm⟩
    · refine G_cond_t (b := (decide (s6591 < (x6579.length : Int)))) hc6602 (by kernel_rfl) ?_
      refine G_skip ?_
      refine N_then ?_
      refine G_seq ?_
      refine G_block ?_
      refine G_seq ?_
      refine G_region ?_
      refine W_run 2 [(0, .slice p6581 x6579.length c6582), (1, .int .i64 x6584), (5, .int .i64 s6591), (12, .slice p6581 x6579.length c6582), (13, .int .i64 s6591)] w6595 (by kernel_rfl) ?_
      obtain ⟨y6603, hy6603, hm⟩ := gx_bind hm
      refine W_val (elemP p6581 (s6591.toNat * 1)) w6595 (by kernel_rfl) (E_index (E := encI) _ _ _ x6579.length c6582 .i64 s6591 1 (y := y6603) rfl (by kernel_rfl) (by kernel_rfl) (by kernel_rfl) (h6583.mem0 M6596) rfl hy6603) ?_
      refine W_val (.int .i64 y6603) w6595 (by kernel_rfl) (E_loadE (E := encI) _ _ false 1 s6591 0 (s6591.toNat * 1) y6603 (.int .i64 y6603) rfl (by kernel_rfl) (by kernel_rfl) (by kernel_rfl) (h6583.mem0 M6596) hy6603 rfl) ?_
      refine W_run 2 [(0, .slice p6581 x6579.length c6582), (1, .int .i64 x6584), (5, .int .i64 s6591), (17, .bool (y6603 == x6584))] w6595 (by kernel_rfl) ?_
      refine W_nil ?_
      refine N_then ?_
      rcases gx_bif hm with ⟨hc6604, hm⟩ | ⟨hc6604, hm⟩
      · refine G_cond_t (b := (y6603 == x6584)) hc6604 (by kernel_rfl) ?_
        refine G_seq ?_
        refine G_region ?_
        refine W_run 1 [(4, .bool true)] w6595 (by kernel_rfl) ?_
        refine W_nil ?_
        refine N_then ?_
        refine G_ret ?_
        refine N_block_ret ?_
        refine N_then_ret ?_
        refine N_then_ret ?_
        obtain rfl := Option.some.inj hm
        obtain rfl := hout6593 _ rfl
        have hm := hmo6600; simp only [Sum.elim_inr] at hm
        refine N_block_ret ?_
        refine N_meet_ret ?_
        refine N_then_ret ?_
        obtain rfl := Option.some.inj hm
        refine N_ret [.bool true] (RVs_cons (RV_tmp (by kernel_rfl)) RVs_nil) ?_
        exact ⟨rfl, M6596.pick [] (by kernel_rfl)⟩
      · refine G_cond_f (b := (y6603 == x6584)) hc6604 (by kernel_rfl) ?_
        refine G_skip ?_
        refine N_block ?_
        refine N_then ?_
        refine G_region ?_
        refine W_run 3 [(0, .slice p6581 x6579.length c6582), (1, .int .i64 x6584), (5, .int .i64 (w64 (s6591 + 1)))] w6595 (by kernel_rfl) ?_
        refine W_nil ?_
        obtain rfl := Option.some.inj hm
        exact N_loop fun a ha => ⟨_, rfl, M6596.pick [] (by kernel_rfl), ha.sub (by kernel_rfl)⟩
    · refine G_cond_f (b := (decide (s6591 < (x6579.length : Int)))) hc6602 (by kernel_rfl) ?_
      refine G_exit ?_
      refine N_then_exit ?_
      refine N_then_exit ?_
      refine N_block_eq ?_
      obtain rfl := Option.some.inj hm
      obtain rfl := hout6593 _ rfl
      exact N_meet fun a ha => ⟨_, rfl, M6596.pick [] (by kernel_rfl), ha.sub (by kernel_rfl)⟩
  · intro a6605 w6606 ⟨o6601, hout_, M6607, hS6608⟩
    refine N_use hS6608 ?_
    subst hout_
    have hm := hmo6600; simp only [Sum.elim_inl] at hm
    refine N_then ?_
    refine G_seq ?_
    refine G_region ?_
    refine W_run 1 [(4, .bool false)] w6606 (by kernel_rfl) ?_
    refine W_nil ?_
    refine N_then ?_
    refine G_ret ?_
    obtain rfl := Option.some.inj hm
    refine N_ret [.bool false] (RVs_cons (RV_tmp (by kernel_rfl)) RVs_nil) ?_
    exact ⟨rfl, M6607.pick [] (by kernel_rfl)⟩
theorem c_s_DrawStartCopy (w : World) (x6720 : List Int) (p6722 : Option Addr) (c6723 : Nat) (h6724 : rdS encU8 w x6720 p6722 c6723) {r : (List Int)} (hm : M.s_DrawStartCopy x6720 = some r) :
    Calls Try.prog 52 #[.slice p6722 x6720.length c6723] w fun e w' => ∃ (p6726 : Option Addr) (c6727 : Nat) (sg6728 : Seg), e = .returned (.slice p6726 r.length c6727) ∧ ownS encI r p6726 c6727 sg6728 ∧ Mem [] w w' [sg6728] := by
  unfold M.s_DrawStartCopy at hm
  refine C_enter Try.func52 rfl (by kernel_rfl) ?_
  have M0 := Mem.refl [] w
  refine G_seq ?_
  refine G_region ?_
  refine W_run 1 [(0, .slice p6722 x6720.length c6723)] w (by kernel_rfl) ?_
  refine W_nil ?_
  refine N_then ?_
  refine G_seq ?_
  refine G_region ?_
  refine W_run 2 [(5, .agg #[.slice p6722 x6720.length c6723, .int .i64 0, .int .u64 0])] w (by kernel_rfl) ?_
  refine W_new (fun b => .pointer (some ⟨b, 0, none⟩)) (.cells ⟨[.slice p6722 x6720.length c6723, .int .i64 0, .int .u64 0]⟩ 99 (0, 0)) M0 rfl (by kernel_rfl) (by kernel_rfl) ?_
  intro b6732 w6733 M6734
  refine W_run 1 [(3, .pointer (some ⟨b6732, 0, none⟩))] w6733 (by kernel_rfl) ?_
  refine W_nil ?_
  refine N_then ?_
  refine G_seq ?_
  refine G_region ?_
  refine W_run 1 [(7, .pointer (some ⟨b6732, 0, none⟩))] w6733 (by kernel_rfl) ?_
  obtain ⟨r6735, hr6735, hm⟩ := gx_bind hm
  refine W_call 91 #[.pointer (some ⟨b6732, 0, none⟩)] (by kernel_rfl) (by kernel_rfl) ?_
  refine (c_s_l1Cur_memory w6733 (⟨x6720, 0, 0⟩ : l1Cur) p6722 c6723 (h6724.mem0 M6734) b6732 (M6734.hasPick [0]) (M6734.nodupPick [0] (by kernel_rfl)) (apartX.old0 h6724 M6734 [0]) hr6735).mono ?_
  rintro e_ w6741 ⟨p6737, c6738, sg6739, rfl, ho6740, K6742⟩
  have M6743 := M6734.callF' [0] [] (by kernel_rfl) K6742
  refine ⟨_, rfl, ?_⟩
  refine W_run 1 [(2, .slice p6737 r6735.1.length c6738)] w6741 (by kernel_rfl) ?_
  refine W_nil ?_
  refine N_then ?_
  refine G_ret ?_
  obtain rfl := Option.some.inj hm
  refine N_ret [.slice p6737 r6735.1.length c6738] (RVs_cons (RV_tmp (by kernel_rfl)) RVs_nil) ?_
  exact ⟨p6737, c6738, sg6739, rfl, ho6740, M6743.pick [1] (by kernel_rfl)⟩
end Go.Proofs.Ytjbblcdajdpfkaa
