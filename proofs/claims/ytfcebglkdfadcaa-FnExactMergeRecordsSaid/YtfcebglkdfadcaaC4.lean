/- The walks, printed by program: whenever the model gives r, the call returns r. Part 4. -/
import Derived.Test.YtfcebglkdfadcaaM
import Derived.Test.YtfcebglkdfadcaaProg
import Derived.Test.YtfcebglkdfadcaaSh
import Derived.Test.YtfcebglkdfadcaaC3
set_option linter.unusedVariables false
set_option maxRecDepth 100000
set_option maxHeartbeats 4000000
namespace Go.Proofs.Ytfcebglkdfadcaa
open Go.Gx
theorem c_l_FnExactAddEvent (w : World) (x3151 : List Event) (p3153 : Option Addr) (c3154 : Nat) (h3155 : rdS encEvent w x3151 p3153 c3154) (x3156 : Event) {r : Bool} (hm : M.l_FnExactAddEvent x3151 x3156 = some r) :
    Calls Try.prog 9 #[.slice p3153 x3151.length c3154, .agg #[.int .i64 x3156.Tick, .int .i64 x3156.Guest, .string x3156.Kind, .int .i64 x3156.Value]] w fun e w' => e = .returned (.bool r) ∧ Mem [] w w' [] := by
  unfold M.l_FnExactAddEvent at hm
  refine C_enter Try.func9 rfl (by kernel_rfl) ?_
  have M0 := Mem.refl [] w
  refine G_seq ?_
  refine G_region ?_
  refine W_new (fun b => .pointer (some ⟨b, 0, none⟩)) (.cells ⟨[.int .i64 x3156.Tick, .int .i64 x3156.Guest, .string x3156.Kind, .int .i64 x3156.Value]⟩ 23 (0, 0)) M0 rfl (by kernel_rfl) (by kernel_rfl) ?_
  intro b3158 w3159 M3160
  refine W_run 1 [(0, .slice p3153 x3151.length c3154), (3, .pointer (some ⟨b3158, 0, none⟩))] w3159 (by kernel_rfl) ?_
  refine W_nil ?_
  refine N_then ?_
  refine G_seq ?_
  refine G_region ?_
  refine W_run 1 [(0, .slice p3153 x3151.length c3154), (3, .pointer (some ⟨b3158, 0, none⟩)), (5, .int .i64 1048576)] w3159 (by kernel_rfl) ?_
  refine W_nil ?_
  refine N_then ?_
  refine G_seq ?_
  refine G_region ?_
  refine W_run 2 [(0, .slice p3153 x3151.length c3154), (3, .pointer (some ⟨b3158, 0, none⟩)), (5, .int .i64 1048576), (16, .slice p3153 x3151.length c3154), (17, .int .i64 1048576)] w3159 (by kernel_rfl) ?_
  obtain ⟨r3161, hr3161, hm⟩ := gx_bind hm
  refine W_call 17 #[.slice p3153 x3151.length c3154, .int .i64 1048576] (by kernel_rfl) (by kernel_rfl) ?_
  refine (c_l_szEventS w3159 x3151 p3153 c3154 (h3155.mem0 M3160) 1048576 hr3161).mono ?_
  rintro e_ w3162 ⟨rfl, K3163⟩
  have M3164 := M3160.call0 K3163
  refine ⟨_, rfl, ?_⟩
  refine W_run 1 [(0, .slice p3153 x3151.length c3154), (3, .pointer (some ⟨b3158, 0, none⟩)), (5, .int .i64 r3161)] w3162 (by kernel_rfl) ?_
  refine W_nil ?_
  refine N_then ?_
  refine G_seq ?_
  refine G_seq ?_
  refine G_region ?_
  refine W_run 2 [(0, .slice p3153 x3151.length c3154), (3, .pointer (some ⟨b3158, 0, none⟩)), (5, .int .i64 r3161), (20, .bool (decide (r3161 < 0)))] w3162 (by kernel_rfl) ?_
  refine W_nil ?_
  refine N_then ?_
  rcases gx_bif hm with ⟨hc3165, hm⟩ | ⟨hc3165, hm⟩
  · refine G_cond_t (b := (decide (r3161 < 0))) hc3165 (by kernel_rfl) ?_
    refine G_seq ?_
    refine G_region ?_
    refine W_run 1 [(4, .bool true)] w3162 (by kernel_rfl) ?_
    refine W_nil ?_
    refine N_then ?_
    refine G_ret ?_
    refine N_then_ret ?_
    obtain rfl := Option.some.inj hm
    refine N_ret [.bool true] (RVs_cons (RV_tmp (by kernel_rfl)) RVs_nil) ?_
    exact ⟨rfl, M3164.pick [] (by kernel_rfl)⟩
  refine G_cond_f (b := (decide (r3161 < 0))) hc3165 (by kernel_rfl) ?_
  refine G_skip ?_
  refine N_then ?_
  refine G_seq ?_
  refine G_region ?_
  refine W_val (.agg #[.int .i64 x3156.Tick, .int .i64 x3156.Guest, .string x3156.Kind, .int .i64 x3156.Value]) w3162 (by kernel_rfl) (E_load (e := 23) (fr := (0, 0)) _ _ true 4 b3158 0 [.int .i64 x3156.Tick, .int .i64 x3156.Guest, .string x3156.Kind, .int .i64 x3156.Value] (.agg #[.int .i64 x3156.Tick, .int .i64 x3156.Guest, .string x3156.Kind, .int .i64 x3156.Value]) rfl (by kernel_rfl) (by kernel_rfl) (by kernel_rfl) (M3164.blk 0 (b := b3158) (o := .cells ⟨[.int .i64 x3156.Tick, .int .i64 x3156.Guest, .string x3156.Kind, .int .i64 x3156.Value]⟩ 23 (0, 0)) (by kernel_rfl))) ?_
  refine W_run 1 [(0, .slice p3153 x3151.length c3154), (3, .pointer (some ⟨b3158, 0, none⟩)), (5, .int .i64 r3161), (21, .agg #[.int .i64 x3156.Tick, .int .i64 x3156.Guest, .string x3156.Kind, .int .i64 x3156.Value]), (22, .int .i64 r3161)] w3162 (by kernel_rfl) ?_
  obtain ⟨r3166, hr3166, hm⟩ := gx_bind hm
  refine W_call 13 #[.agg #[.int .i64 x3156.Tick, .int .i64 x3156.Guest, .string x3156.Kind, .int .i64 x3156.Value], .int .i64 r3161] (by kernel_rfl) (by kernel_rfl) ?_
  refine (c_l_szEvent w3162 x3156 r3161 hr3166).mono ?_
  rintro e_ w3167 ⟨rfl, K3168⟩
  have M3169 := M3164.call0 K3168
  refine ⟨_, rfl, ?_⟩
  refine W_run 1 [(0, .slice p3153 x3151.length c3154), (3, .pointer (some ⟨b3158, 0, none⟩)), (5, .int .i64 r3166)] w3167 (by kernel_rfl) ?_
  refine W_nil ?_
  refine N_then ?_
  refine G_seq ?_
  refine G_seq ?_
  refine G_region ?_
  refine W_run 2 [(0, .slice p3153 x3151.length c3154), (3, .pointer (some ⟨b3158, 0, none⟩)), (25, .bool (decide (r3166 < 0)))] w3167 (by kernel_rfl) ?_
  refine W_nil ?_
  refine N_then ?_
  rcases gx_bif hm with ⟨hc3170, hm⟩ | ⟨hc3170, hm⟩
  · refine G_cond_t (b := (decide (r3166 < 0))) hc3170 (by kernel_rfl) ?_
    refine G_seq ?_
    refine G_region ?_
    refine W_run 1 [(4, .bool true)] w3167 (by kernel_rfl) ?_
    refine W_nil ?_
    refine N_then ?_
    refine G_ret ?_
    refine N_then_ret ?_
    obtain rfl := Option.some.inj hm
    refine N_ret [.bool true] (RVs_cons (RV_tmp (by kernel_rfl)) RVs_nil) ?_
    exact ⟨rfl, M3169.pick [] (by kernel_rfl)⟩
  refine G_cond_f (b := (decide (r3166 < 0))) hc3170 (by kernel_rfl) ?_
  refine G_skip ?_
  refine N_then ?_
  refine G_seq ?_
  obtain ⟨r3173, hr3173, hm⟩ := gx_bind hm
  obtain ⟨r3179, hr3179, hm⟩ := gx_bind hm
  obtain ⟨r3428, hr3428, hm⟩ := gx_bind hm
  refine G_sub [(0, .slice p3153 x3151.length c3154), (3, .pointer (some ⟨b3158, 0, none⟩)), (25, .bool (decide (r3166 < 0)))] (by kernel_rfl) ?_
  refine G_dagL 9 [[], [0], [], [2], [1, 3], [], [5], [5], [6]] [[], [], [], [], [], [], [], [], []] [[], [], [], [], [1], [], [], [], []] [[], [], [], [], [], [4], [4], [4], [4]] [[], [], [], [], [], [4], [4], [], [4]] [[], [], [], [], [], [], [], [], []] (fun _ => []) (fun i => ([fun f v s => v = (.slice p3153 x3151.length c3154 : Value) ∧ s = [], fun f v s => ∃ (p3175 : Option Addr) (c3176 : Nat), v = (.slice p3175 r3173.length c3176 : Value) ∧ ownS encEvent r3173 p3175 c3176 s, fun f v s => v = (.agg #[.int .i64 x3156.Tick, .int .i64 x3156.Guest, .string x3156.Kind, .int .i64 x3156.Value] : Value) ∧ s = [], fun f v s => v = (.agg #[.int .i64 r3179.Tick, .int .i64 r3179.Guest, .string r3179.Kind, .int .i64 r3179.Value] : Value) ∧ s = [], fun f v s => ∃ (p3430 : Option Addr) (c3431 : Nat), v = (.tuple #[.slice p3430 r3428.1.length c3431, .bool r3428.2] : Value) ∧ ownS encEvent r3428.1 p3430 c3431 s, fun f v s => v = (.tuple #[(atPath (f 4) [0]), .bool r3428.2] : Value) ∧ s = [], fun f v s => v = ((atPath (f 4) [0]) : Value) ∧ s = [], fun f v s => v = (.bool r3428.2 : Value) ∧ s = [], fun f v s => v = ((atPath (f 4) [0]) : Value) ∧ s = []] : List ((Nat → Value) → Value → Seg → Prop)).getD i (fun _ _ _ => False)) (fun j f v => ∃ s, (fun i => ([fun f v s => v = (.slice p3153 x3151.length c3154 : Value) ∧ s = [], fun f v s => ∃ (p3175 : Option Addr) (c3176 : Nat), v = (.slice p3175 r3173.length c3176 : Value) ∧ ownS encEvent r3173 p3175 c3176 s, fun f v s => v = (.agg #[.int .i64 x3156.Tick, .int .i64 x3156.Guest, .string x3156.Kind, .int .i64 x3156.Value] : Value) ∧ s = [], fun f v s => v = (.agg #[.int .i64 r3179.Tick, .int .i64 r3179.Guest, .string r3179.Kind, .int .i64 r3179.Value] : Value) ∧ s = [], fun f v s => ∃ (p3430 : Option Addr) (c3431 : Nat), v = (.tuple #[.slice p3430 r3428.1.length c3431, .bool r3428.2] : Value) ∧ ownS encEvent r3428.1 p3430 c3431 s, fun f v s => v = (.tuple #[(atPath (f 4) [0]), .bool r3428.2] : Value) ∧ s = [], fun f v s => v = ((atPath (f 4) [0]) : Value) ∧ s = [], fun f v s => v = (.bool r3428.2 : Value) ∧ s = [], fun f v s => v = ((atPath (f 4) [0]) : Value) ∧ s = []] : List ((Nat → Value) → Value → Seg → Prop)).getD i (fun _ _ _ => False)) j f v s) [] [1, 4, 7, 8] [1, 4] (fun _ _ _ s h => ⟨s, h⟩) (by kernel_rfl) (by kernel_rfl) (M3169.preNil 9) (by kernel_rfl) (by kernel_rfl) (by kernel_rfl) (by kernel_rfl) (allOb_cons ?_ (allOb_cons ?_ (allOb_cons ?_ (allOb_cons ?_ (allOb_cons ?_ (allOb_cons ?_ (allOb_cons ?_ (allOb_cons ?_ (allOb_cons ?_ allOb_nil))))))))) ?_
  · intro g3171 f3172
    intro R w3434 M3435
    refine W_run 1 [(27, .slice p3153 x3151.length c3154)] w3434 (by kernel_rfl) ?_
    exact W_nil (ob_end (.slice p3153 x3151.length c3154) [] rfl (by kernel_rfl) ⟨by kernel_rfl, rfl⟩ M3435)
  · intro g3171 f3172
    intro v0_ hb0_
    obtain ⟨rfl, _⟩ := hb0_
    intro R w3438 M3439
    refine W_call 19 #[.slice p3153 x3151.length c3154] (by kernel_rfl) (by kernel_rfl) ?_
    refine (c_l_toEventS w3438 x3151 p3153 c3154 (h3155.mem0 M3439) hr3173).mono ?_
    rintro e_ w3440 ⟨p3175, c3176, sg3177, rfl, ho3178, K3442⟩
    refine ⟨_, rfl, ?_⟩
    exact W_nil (ob_end (.slice p3175 r3173.length c3176) sg3177 rfl (by kernel_rfl) ⟨p3175, c3176, rfl, ho3178⟩ (Mem.callMid M3439 K3442))
  · intro g3171 f3172
    intro R w3443 M3444
    refine W_val (.agg #[.int .i64 x3156.Tick, .int .i64 x3156.Guest, .string x3156.Kind, .int .i64 x3156.Value]) w3443 (by kernel_rfl) (E_load (e := 23) (fr := (0, 0)) _ _ true 4 b3158 0 [.int .i64 x3156.Tick, .int .i64 x3156.Guest, .string x3156.Kind, .int .i64 x3156.Value] (.agg #[.int .i64 x3156.Tick, .int .i64 x3156.Guest, .string x3156.Kind, .int .i64 x3156.Value]) rfl (by kernel_rfl) (by kernel_rfl) (by kernel_rfl) (M3444.blk 0 (b := b3158) (o := .cells ⟨[.int .i64 x3156.Tick, .int .i64 x3156.Guest, .string x3156.Kind, .int .i64 x3156.Value]⟩ 23 (0, 0)) (by kernel_rfl))) ?_
    exact W_nil (ob_end (.agg #[.int .i64 x3156.Tick, .int .i64 x3156.Guest, .string x3156.Kind, .int .i64 x3156.Value]) [] rfl (by kernel_rfl) ⟨by kernel_rfl, rfl⟩ M3444)
  · intro g3171 f3172
    intro v2_ hb2_
    obtain ⟨rfl, _⟩ := hb2_
    intro R w3447 M3448
    refine W_call 15 #[.agg #[.int .i64 x3156.Tick, .int .i64 x3156.Guest, .string x3156.Kind, .int .i64 x3156.Value]] (by kernel_rfl) (by kernel_rfl) ?_
    refine (c_l_toEvent w3447 x3156 hr3179).mono ?_
    rintro e_ w3449 ⟨rfl, K3451⟩
    refine ⟨_, rfl, ?_⟩
    exact W_nil (ob_end (.agg #[.int .i64 r3179.Tick, .int .i64 r3179.Guest, .string r3179.Kind, .int .i64 r3179.Value]) [] rfl (by kernel_rfl) ⟨rfl, rfl⟩ (M3448.call0 K3451))
  · intro g3171 f3172
    intro v1_ hb1_
    obtain ⟨p3175, c3176, rfl, ho3178⟩ := hb1_
    intro v3_ hb3_
    obtain ⟨rfl, _⟩ := hb3_
    intro R w3452 M3453
    refine W_call 32 #[.slice p3175 r3173.length c3176, .agg #[.int .i64 r3179.Tick, .int .i64 r3179.Guest, .string r3179.Kind, .int .i64 r3179.Value]] (by kernel_rfl) (by kernel_rfl) ?_
    refine (c_s_AddEvent w3452 r3173 p3175 c3176 (ho3178.rd M3453 2 (by kernel_rfl)) r3179 hr3428).mono ?_
    rintro e_ w3454 ⟨p3430, c3431, sg3432, rfl, ho3433, K3456⟩
    refine ⟨_, rfl, ?_⟩
    exact W_nil (ob_end (.tuple #[.slice p3430 r3428.1.length c3431, .bool r3428.2]) sg3432 rfl (by kernel_rfl) ⟨p3430, c3431, rfl, ho3433⟩ (Mem.callMid M3453 K3456))
  · intro g3171 f3172
    intro v4_ hb4_
    obtain ⟨_, p3430, c3431, rfl, _⟩ := hb4_
    intro R w3457 M3458
    refine W_run 1 [(26, .tuple #[.slice p3430 r3428.1.length c3431, .bool r3428.2])] w3457 (by kernel_rfl) ?_
    exact W_nil (ob_end (.tuple #[.slice p3430 r3428.1.length c3431, .bool r3428.2]) [] rfl (by kernel_rfl) ⟨by kernel_rfl, rfl⟩ M3458)
  · intro g3171 f3172
    intro v4_ hb4_
    obtain ⟨_, p3430, c3431, rfl, _⟩ := hb4_
    intro v5_ hb5_
    obtain ⟨hv5_, _⟩ := hb5_
    obtain rfl : v5_ = (.tuple #[.slice p3430 r3428.1.length c3431, .bool r3428.2] : Value) := hv5_.trans (by kernel_rfl)
    intro R w3461 M3462
    refine W_run 1 [(32, .slice p3430 r3428.1.length c3431)] w3461 (by kernel_rfl) ?_
    exact W_nil (ob_end (.slice p3430 r3428.1.length c3431) [] rfl (by kernel_rfl) ⟨by kernel_rfl, rfl⟩ M3462)
  · intro g3171 f3172
    intro v4_ hb4_
    obtain ⟨_, p3430, c3431, rfl, _⟩ := hb4_
    intro v5_ hb5_
    obtain ⟨hv5_, _⟩ := hb5_
    obtain rfl : v5_ = (.tuple #[.slice p3430 r3428.1.length c3431, .bool r3428.2] : Value) := hv5_.trans (by kernel_rfl)
    intro R w3465 M3466
    refine W_run 1 [(33, .bool r3428.2)] w3465 (by kernel_rfl) ?_
    exact W_nil (ob_end (.bool r3428.2) [] rfl (by kernel_rfl) ⟨by kernel_rfl, rfl⟩ M3466)
  · intro g3171 f3172
    intro v4_ hb4_
    obtain ⟨_, p3430, c3431, rfl, _⟩ := hb4_
    intro v6_ hb6_
    obtain ⟨hv6_, _⟩ := hb6_
    obtain rfl : v6_ = (.slice p3430 r3428.1.length c3431 : Value) := hv6_.trans (by kernel_rfl)
    intro R w3469 M3470
    refine W_run 1 [(6, .slice p3430 r3428.1.length c3431)] w3469 (by kernel_rfl) ?_
    exact W_nil (ob_end (.slice p3430 r3428.1.length c3431) [] rfl (by kernel_rfl) ⟨by kernel_rfl, rfl⟩ M3470)
  intro g3171 f3172
  intro v1_ hb1_
  obtain ⟨p3175, c3176, rfl, ho3178⟩ := hb1_
  intro v4_ hb4_
  obtain ⟨p3430, c3431, rfl, ho3433⟩ := hb4_
  intro v7_ hb7_
  obtain ⟨rfl, _⟩ := hb7_
  intro v8_ hb8_
  obtain ⟨hv8_, _⟩ := hb8_
  obtain rfl : v8_ = (.slice p3430 r3428.1.length c3431 : Value) := hv8_.trans (by kernel_rfl)
  intro w3473 M3474
  have M3475 : Mem [] w w3473 [[(b3158, .cells ⟨[.int .i64 x3156.Tick, .int .i64 x3156.Guest, .string x3156.Kind, .int .i64 x3156.Value]⟩ 23 (0, 0))], (g3171 1), (g3171 4)] := M3474
  refine W_run 1 [(0, .slice p3153 x3151.length c3154), (3, .pointer (some ⟨b3158, 0, none⟩)), (6, .slice p3430 r3428.1.length c3431), (7, .bool r3428.2)] w3473 (by kernel_rfl) ?_
  refine W_nil ?_
  refine N_then ?_
  refine G_seq ?_
  refine G_region ?_
  refine W_run 1 [(0, .slice p3153 x3151.length c3154), (3, .pointer (some ⟨b3158, 0, none⟩)), (6, .slice p3430 r3428.1.length c3431), (7, .bool r3428.2), (34, .slice p3153 x3151.length c3154)] w3473 (by kernel_rfl) ?_
  obtain ⟨r3476, hr3476, hm⟩ := gx_bind hm
  refine W_call 19 #[.slice p3153 x3151.length c3154] (by kernel_rfl) (by kernel_rfl) ?_
  refine (c_l_toEventS w3473 x3151 p3153 c3154 (h3155.mem0 M3475) hr3476).mono ?_
  rintro e_ w3482 ⟨p3478, c3479, sg3480, rfl, ho3481, K3483⟩
  have M3484 := M3475.call K3483
  refine ⟨_, rfl, ?_⟩
  refine W_run 1 [(0, .slice p3153 x3151.length c3154), (3, .pointer (some ⟨b3158, 0, none⟩)), (6, .slice p3430 r3428.1.length c3431), (7, .bool r3428.2), (8, .slice p3478 r3476.length c3479)] w3482 (by kernel_rfl) ?_
  refine W_nil ?_
  refine N_then ?_
  refine G_seq ?_
  refine G_region ?_
  refine W_run 1 [(0, .slice p3153 x3151.length c3154), (3, .pointer (some ⟨b3158, 0, none⟩)), (6, .slice p3430 r3428.1.length c3431), (7, .bool r3428.2), (8, .slice p3478 r3476.length c3479), (37, .slice p3478 r3476.length c3479)] w3482 (by kernel_rfl) ?_
  refine W_val (.agg #[.int .i64 x3156.Tick, .int .i64 x3156.Guest, .string x3156.Kind, .int .i64 x3156.Value]) w3482 (by kernel_rfl) (E_load (e := 23) (fr := (0, 0)) _ _ true 4 b3158 0 [.int .i64 x3156.Tick, .int .i64 x3156.Guest, .string x3156.Kind, .int .i64 x3156.Value] (.agg #[.int .i64 x3156.Tick, .int .i64 x3156.Guest, .string x3156.Kind, .int .i64 x3156.Value]) rfl (by kernel_rfl) (by kernel_rfl) (by kernel_rfl) (M3484.blk 0 (b := b3158) (o := .cells ⟨[.int .i64 x3156.Tick, .int .i64 x3156.Guest, .string x3156.Kind, .int .i64 x3156.Value]⟩ 23 (0, 0)) (by kernel_rfl))) ?_
  obtain ⟨r3485, hr3485, hm⟩ := gx_bind hm
  refine W_call 15 #[.agg #[.int .i64 x3156.Tick, .int .i64 x3156.Guest, .string x3156.Kind, .int .i64 x3156.Value]] (by kernel_rfl) (by kernel_rfl) ?_
  refine (c_l_toEvent w3482 x3156 hr3485).mono ?_
  rintro e_ w3486 ⟨rfl, K3487⟩
  have M3488 := M3484.call0 K3487
  refine ⟨_, rfl, ?_⟩
  obtain ⟨r6750, hr6750, hm⟩ := gx_bind hm
  refine W_call 33 #[.slice p3478 r3476.length c3479, .agg #[.int .i64 r3485.Tick, .int .i64 r3485.Guest, .string r3485.Kind, .int .i64 r3485.Value]] (by kernel_rfl) (by kernel_rfl) ?_
  refine (c_i_AddEvent w3486 r3476 p3478 c3479 (ho3481.rd M3488 3 (by kernel_rfl)) r3485 hr6750).mono ?_
  rintro e_ w6756 ⟨p6752, c6753, sg6754, rfl, ho6755, K6757⟩
  have M6758 := M3488.call K6757
  refine ⟨_, rfl, ?_⟩
  refine W_run 5 [(0, .slice p3153 x3151.length c3154), (3, .pointer (some ⟨b3158, 0, none⟩)), (6, .slice p3430 r3428.1.length c3431), (7, .bool r3428.2), (8, .slice p3478 r3476.length c3479), (9, .slice p6752 r6750.1.length c6753), (10, .bool r6750.2)] w6756 (by kernel_rfl) ?_
  refine W_nil ?_
  refine N_then ?_
  refine G_seq ?_
  refine G_seq ?_
  obtain ⟨o6764, ho6765, hm6766⟩ := gx_bind hm
  refine G_meet (fun a w' => Mem [] w w' [[(b3158, .cells ⟨[.int .i64 x3156.Tick, .int .i64 x3156.Guest, .string x3156.Kind, .int .i64 x3156.Value]⟩ 23 (0, 0))], (g3171 4), sg3480, sg6754] ∧ Sat Try.f9.ntmps [(0, .slice p3153 x3151.length c3154), (3, .pointer (some ⟨b3158, 0, none⟩)), (6, .slice p3430 r3428.1.length c3431), (7, .bool r3428.2), (8, .slice p3478 r3476.length c3479), (9, .slice p6752 r6750.1.length c6753), (10, .bool r6750.2), (51, .bool o6764)] a) ?_ ?_
  · have hm := ho6765
    refine G_region ?_
    refine W_run 2 [(0, .slice p3153 x3151.length c3154), (3, .pointer (some ⟨b3158, 0, none⟩)), (6, .slice p3430 r3428.1.length c3431), (7, .bool r3428.2), (8, .slice p3478 r3476.length c3479), (9, .slice p6752 r6750.1.length c6753), (10, .bool r6750.2), (43, .slice p6752 r6750.1.length c6753), (44, .slice p3430 r3428.1.length c3431)] w6756 (by kernel_rfl) ?_
    obtain ⟨r6767, hr6767, hm⟩ := gx_bind hm
    refine W_call 21 #[.slice p6752 r6750.1.length c6753, .slice p3430 r3428.1.length c3431] (by kernel_rfl) (by kernel_rfl) ?_
    refine (c_l_eqEventS w6756 r6750.1 p6752 c6753 (ho6755.rd M6758 4 (by kernel_rfl)) r3428.1 p3430 c3431 (ho3433.rd M6758 2 (by kernel_rfl)) hr6767).mono ?_
    rintro e_ w6768 ⟨rfl, K6769⟩
    have M6770 := M6758.call0 K6769
    refine ⟨_, rfl, ?_⟩
    refine W_run 2 [(0, .slice p3153 x3151.length c3154), (3, .pointer (some ⟨b3158, 0, none⟩)), (6, .slice p3430 r3428.1.length c3431), (7, .bool r3428.2), (8, .slice p3478 r3476.length c3479), (9, .slice p6752 r6750.1.length c6753), (10, .bool r6750.2), (47, .bool (!r6767))] w6768 (by kernel_rfl) ?_
    rcases gx_bif hm with ⟨hc6771, hm⟩ | ⟨hc6771, hm⟩
    · refine W_known 47 true (by kernel_rfl) hc6771 ?_
      refine W_run 4 [(0, .slice p3153 x3151.length c3154), (3, .pointer (some ⟨b3158, 0, none⟩)), (6, .slice p3430 r3428.1.length c3431), (7, .bool r3428.2), (8, .slice p3478 r3476.length c3479), (9, .slice p6752 r6750.1.length c6753), (10, .bool r6750.2), (51, .bool true)] w6768 (by kernel_rfl) ?_
      refine W_nil ?_
      obtain rfl := Option.some.inj hm
      exact N_meet fun a ha => ⟨M6770.pick [0, 2, 3, 4] (by kernel_rfl), ha.sub (by kernel_rfl)⟩
    refine W_known 47 false (by kernel_rfl) hc6771 ?_
    refine W_run 4 [(0, .slice p3153 x3151.length c3154), (3, .pointer (some ⟨b3158, 0, none⟩)), (6, .slice p3430 r3428.1.length c3431), (7, .bool r3428.2), (8, .slice p3478 r3476.length c3479), (9, .slice p6752 r6750.1.length c6753), (10, .bool r6750.2), (51, .bool (!(r6750.2 == r3428.2)))] w6768 (by kernel_rfl) ?_
    refine W_nil ?_
    obtain rfl := Option.some.inj hm
    exact N_meet fun a ha => ⟨M6770.pick [0, 2, 3, 4] (by kernel_rfl), ha.sub (by kernel_rfl)⟩
  intro a6774 w6772 ⟨M6773, hS6775⟩
  refine N_use hS6775 ?_
  have hm := hm6766
  refine N_then ?_
  rcases gx_bif hm with ⟨hc6776, hm⟩ | ⟨hc6776, hm⟩
  · refine G_cond_t (b := o6764) hc6776 (by kernel_rfl) ?_
    refine G_seq ?_
    refine G_region ?_
    refine W_run 1 [(4, .bool false)] w6772 (by kernel_rfl) ?_
    refine W_nil ?_
    refine N_then ?_
    refine G_ret ?_
    refine N_then_ret ?_
    obtain rfl := Option.some.inj hm
    refine N_ret [.bool false] (RVs_cons (RV_tmp (by kernel_rfl)) RVs_nil) ?_
    exact ⟨rfl, M6773.pick [] (by kernel_rfl)⟩
  refine G_cond_f (b := o6764) hc6776 (by kernel_rfl) ?_
  refine G_skip ?_
  refine N_then ?_
  refine G_seq ?_
  refine G_seq ?_
  refine G_region ?_
  refine W_run 2 [(0, .slice p3153 x3151.length c3154), (3, .pointer (some ⟨b3158, 0, none⟩)), (6, .slice p3430 r3428.1.length c3431), (7, .bool r3428.2), (8, .slice p3478 r3476.length c3479), (9, .slice p6752 r6750.1.length c6753), (10, .bool r6750.2), (52, .slice p3478 r3476.length c3479), (53, .slice p3153 x3151.length c3154)] w6772 (by kernel_rfl) ?_
  obtain ⟨r6777, hr6777, hm⟩ := gx_bind hm
  refine W_call 19 #[.slice p3153 x3151.length c3154] (by kernel_rfl) (by kernel_rfl) ?_
  refine (c_l_toEventS w6772 x3151 p3153 c3154 (h3155.mem0 M6773) hr6777).mono ?_
  rintro e_ w6783 ⟨p6779, c6780, sg6781, rfl, ho6782, K6784⟩
  have M6785 := M6773.call K6784
  refine ⟨_, rfl, ?_⟩
  obtain ⟨r6786, hr6786, hm⟩ := gx_bind hm
  refine W_call 21 #[.slice p3478 r3476.length c3479, .slice p6779 r6777.length c6780] (by kernel_rfl) (by kernel_rfl) ?_
  refine (c_l_eqEventS w6783 r3476 p3478 c3479 (ho3481.rd M6785 2 (by kernel_rfl)) r6777 p6779 c6780 (ho6782.rd M6785 4 (by kernel_rfl)) hr6786).mono ?_
  rintro e_ w6787 ⟨rfl, K6788⟩
  have M6789 := M6785.call0 K6788
  refine ⟨_, rfl, ?_⟩
  refine W_run 1 [(0, .slice p3153 x3151.length c3154), (3, .pointer (some ⟨b3158, 0, none⟩)), (6, .slice p3430 r3428.1.length c3431), (7, .bool r3428.2), (8, .slice p3478 r3476.length c3479), (9, .slice p6752 r6750.1.length c6753), (10, .bool r6750.2), (56, .bool (!r6786))] w6787 (by kernel_rfl) ?_
  refine W_nil ?_
  refine N_then ?_
  rcases gx_bif hm with ⟨hc6790, hm⟩ | ⟨hc6790, hm⟩
  · refine G_cond_t (b := (!r6786)) hc6790 (by kernel_rfl) ?_
    refine G_seq ?_
    refine G_region ?_
    refine W_run 1 [(4, .bool false)] w6787 (by kernel_rfl) ?_
    refine W_nil ?_
    refine N_then ?_
    refine G_ret ?_
    refine N_then_ret ?_
    obtain rfl := Option.some.inj hm
    refine N_ret [.bool false] (RVs_cons (RV_tmp (by kernel_rfl)) RVs_nil) ?_
    exact ⟨rfl, M6789.pick [] (by kernel_rfl)⟩
  refine G_cond_f (b := (!r6786)) hc6790 (by kernel_rfl) ?_
  refine G_skip ?_
  refine N_then ?_
  refine G_seq ?_
  refine G_region ?_
  refine W_run 1 [(0, .slice p3153 x3151.length c3154), (3, .pointer (some ⟨b3158, 0, none⟩)), (6, .slice p3430 r3428.1.length c3431), (7, .bool r3428.2), (8, .slice p3478 r3476.length c3479), (9, .slice p6752 r6750.1.length c6753), (10, .bool r6750.2), (11, .int .i64 1)] w6787 (by kernel_rfl) ?_
  refine W_nil ?_
  refine N_then ?_
  refine G_seq ?_
  refine G_region ?_
  refine W_run 2 [(0, .slice p3153 x3151.length c3154), (3, .pointer (some ⟨b3158, 0, none⟩)), (6, .slice p3430 r3428.1.length c3431), (7, .bool r3428.2), (9, .slice p6752 r6750.1.length c6753), (10, .bool r6750.2), (11, .int .i64 1), (57, .slice p3478 r3476.length c3479), (58, .int .i64 1)] w6787 (by kernel_rfl) ?_
  obtain ⟨r6791, hr6791, hm⟩ := gx_bind hm
  refine W_call 28 #[.slice p3478 r3476.length c3479, .int .i64 1] (by kernel_rfl) (by kernel_rfl) ?_
  refine (c_l_markEventS w6787 r3476 p3478 c3479 sg3480 ho3481 1 (M6789.hasPick [2]) (M6789.nodupPick [2] (by kernel_rfl)) hr6791).mono ?_
  rintro e_ w6795 ⟨sg6792, rfl, ho6793, hl6794, K6796⟩
  have M6797 := M6789.callF' [2] [0, 1, 3, 4] (by kernel_rfl) K6796
  refine ⟨_, rfl, ?_⟩
  refine W_conv 57 (.slice p3478 r3476.length c3479) (.slice p3478 r6791.2.length c3479) (by kernel_rfl) (by first | rw [hl6794] | rw [hl6794]) ?_
  refine W_run 1 [(0, .slice p3153 x3151.length c3154), (3, .pointer (some ⟨b3158, 0, none⟩)), (6, .slice p3430 r3428.1.length c3431), (7, .bool r3428.2), (9, .slice p6752 r6750.1.length c6753), (10, .bool r6750.2), (11, .int .i64 r6791.1)] w6795 (by kernel_rfl) ?_
  refine W_nil ?_
  refine N_then ?_
  refine G_seq ?_
  refine G_seq ?_
  obtain ⟨o6804, ho6805, hm6806⟩ := gx_bind hm
  refine G_meet (fun a w' => Mem [] w w' [[(b3158, .cells ⟨[.int .i64 x3156.Tick, .int .i64 x3156.Guest, .string x3156.Kind, .int .i64 x3156.Value]⟩ 23 (0, 0))], (g3171 4), sg6754] ∧ Sat Try.f9.ntmps [(0, .slice p3153 x3151.length c3154), (3, .pointer (some ⟨b3158, 0, none⟩)), (6, .slice p3430 r3428.1.length c3431), (7, .bool r3428.2), (9, .slice p6752 r6750.1.length c6753), (72, .bool o6804)] a) ?_ ?_
  · have hm := ho6805
    refine G_region ?_
    refine W_run 3 [(0, .slice p3153 x3151.length c3154), (3, .pointer (some ⟨b3158, 0, none⟩)), (6, .slice p3430 r3428.1.length c3431), (7, .bool r3428.2), (9, .slice p6752 r6750.1.length c6753), (10, .bool r6750.2), (62, .bool (decide (r6791.1 < 0)))] w6795 (by kernel_rfl) ?_
    rcases gx_bif hm with ⟨hc6807, hm⟩ | ⟨hc6807, hm⟩
    · refine W_known 62 true (by kernel_rfl) hc6807 ?_
      refine W_run 10 [(0, .slice p3153 x3151.length c3154), (3, .pointer (some ⟨b3158, 0, none⟩)), (6, .slice p3430 r3428.1.length c3431), (7, .bool r3428.2), (9, .slice p6752 r6750.1.length c6753), (72, .bool true)] w6795 (by kernel_rfl) ?_
      refine W_nil ?_
      obtain rfl := Option.some.inj hm
      exact N_meet fun a ha => ⟨M6797.pick [0, 1, 2] (by kernel_rfl), ha.sub (by kernel_rfl)⟩
    refine W_known 62 false (by kernel_rfl) hc6807 ?_
    refine W_run 2 [(0, .slice p3153 x3151.length c3154), (3, .pointer (some ⟨b3158, 0, none⟩)), (6, .slice p3430 r3428.1.length c3431), (7, .bool r3428.2), (9, .slice p6752 r6750.1.length c6753), (10, .bool r6750.2), (62, .bool false), (63, .slice p6752 r6750.1.length c6753), (64, .slice p3430 r3428.1.length c3431)] w6795 (by kernel_rfl) ?_
    obtain ⟨r6808, hr6808, hm⟩ := gx_bind hm
    refine W_call 21 #[.slice p6752 r6750.1.length c6753, .slice p3430 r3428.1.length c3431] (by kernel_rfl) (by kernel_rfl) ?_
    refine (c_l_eqEventS w6795 r6750.1 p6752 c6753 (ho6755.rd M6797 2 (by kernel_rfl)) r3428.1 p3430 c3431 (ho3433.rd M6797 1 (by kernel_rfl)) hr6808).mono ?_
    rintro e_ w6809 ⟨rfl, K6810⟩
    have M6811 := M6797.call0 K6810
    refine ⟨_, rfl, ?_⟩
    refine W_run 3 [(0, .slice p3153 x3151.length c3154), (3, .pointer (some ⟨b3158, 0, none⟩)), (6, .slice p3430 r3428.1.length c3431), (7, .bool r3428.2), (9, .slice p6752 r6750.1.length c6753), (10, .bool r6750.2), (68, .bool (!r6808))] w6809 (by kernel_rfl) ?_
    rcases gx_bif hm with ⟨hc6812, hm⟩ | ⟨hc6812, hm⟩
    · refine W_known 68 true (by kernel_rfl) hc6812 ?_
      refine W_run 4 [(0, .slice p3153 x3151.length c3154), (3, .pointer (some ⟨b3158, 0, none⟩)), (6, .slice p3430 r3428.1.length c3431), (7, .bool r3428.2), (9, .slice p6752 r6750.1.length c6753), (72, .bool true)] w6809 (by kernel_rfl) ?_
      refine W_nil ?_
      obtain rfl := Option.some.inj hm
      exact N_meet fun a ha => ⟨M6811.pick [0, 1, 2] (by kernel_rfl), ha.sub (by kernel_rfl)⟩
    refine W_known 68 false (by kernel_rfl) hc6812 ?_
    refine W_run 4 [(0, .slice p3153 x3151.length c3154), (3, .pointer (some ⟨b3158, 0, none⟩)), (6, .slice p3430 r3428.1.length c3431), (7, .bool r3428.2), (9, .slice p6752 r6750.1.length c6753), (72, .bool (!(r6750.2 == r3428.2)))] w6809 (by kernel_rfl) ?_
    refine W_nil ?_
    obtain rfl := Option.some.inj hm
    exact N_meet fun a ha => ⟨M6811.pick [0, 1, 2] (by kernel_rfl), ha.sub (by kernel_rfl)⟩
  intro a6815 w6813 ⟨M6814, hS6816⟩
  refine N_use hS6816 ?_
  have hm := hm6806
  refine N_then ?_
  rcases gx_bif hm with ⟨hc6817, hm⟩ | ⟨hc6817, hm⟩
  · refine G_cond_t (b := o6804) hc6817 (by kernel_rfl) ?_
    refine G_seq ?_
    refine G_region ?_
    refine W_run 1 [(4, .bool false)] w6813 (by kernel_rfl) ?_
    refine W_nil ?_
    refine N_then ?_
    refine G_ret ?_
    refine N_then_ret ?_
    obtain rfl := Option.some.inj hm
    refine N_ret [.bool false] (RVs_cons (RV_tmp (by kernel_rfl)) RVs_nil) ?_
    exact ⟨rfl, M6814.pick [] (by kernel_rfl)⟩
  refine G_cond_f (b := o6804) hc6817 (by kernel_rfl) ?_
  refine G_skip ?_
  refine N_then ?_
  refine G_seq ?_
  refine G_region ?_
  refine W_run 1 [(0, .slice p3153 x3151.length c3154), (3, .pointer (some ⟨b3158, 0, none⟩)), (6, .slice p3430 r3428.1.length c3431), (7, .bool r3428.2), (9, .slice p6752 r6750.1.length c6753), (12, .int .i64 1)] w6813 (by kernel_rfl) ?_
  refine W_nil ?_
  refine N_then ?_
  refine G_seq ?_
  refine G_region ?_
  refine W_run 2 [(0, .slice p3153 x3151.length c3154), (3, .pointer (some ⟨b3158, 0, none⟩)), (6, .slice p3430 r3428.1.length c3431), (7, .bool r3428.2), (9, .slice p6752 r6750.1.length c6753), (12, .int .i64 1), (73, .slice p6752 r6750.1.length c6753), (74, .int .i64 1)] w6813 (by kernel_rfl) ?_
  obtain ⟨r6818, hr6818, hm⟩ := gx_bind hm
  refine W_call 28 #[.slice p6752 r6750.1.length c6753, .int .i64 1] (by kernel_rfl) (by kernel_rfl) ?_
  refine (c_l_markEventS w6813 r6750.1 p6752 c6753 sg6754 ho6755 1 (M6814.hasPick [2]) (M6814.nodupPick [2] (by kernel_rfl)) hr6818).mono ?_
  rintro e_ w6822 ⟨sg6819, rfl, ho6820, hl6821, K6823⟩
  have M6824 := M6814.callF' [2] [0, 1] (by kernel_rfl) K6823
  refine ⟨_, rfl, ?_⟩
  refine W_conv 9 (.slice p6752 r6750.1.length c6753) (.slice p6752 r6818.2.length c6753) (by kernel_rfl) (by first | rw [hl6821] | rw [hl6821]) ?_
  refine W_conv 73 (.slice p6752 r6750.1.length c6753) (.slice p6752 r6818.2.length c6753) (by kernel_rfl) (by first | rw [hl6821] | rw [hl6821]) ?_
  refine W_run 1 [(0, .slice p3153 x3151.length c3154), (3, .pointer (some ⟨b3158, 0, none⟩)), (6, .slice p3430 r3428.1.length c3431), (7, .bool r3428.2), (9, .slice p6752 r6818.2.length c6753), (12, .int .i64 r6818.1)] w6822 (by kernel_rfl) ?_
  refine W_nil ?_
  refine N_then ?_
  refine G_seq ?_
  refine G_region ?_
  refine W_run 1 [(0, .slice p3153 x3151.length c3154), (3, .pointer (some ⟨b3158, 0, none⟩)), (6, .slice p3430 r3428.1.length c3431), (7, .bool r3428.2), (9, .slice p6752 r6818.2.length c6753), (12, .int .i64 r6818.1), (13, .int .i64 1)] w6822 (by kernel_rfl) ?_
  refine W_nil ?_
  refine N_then ?_
  refine G_seq ?_
  refine G_region ?_
  refine W_run 2 [(0, .slice p3153 x3151.length c3154), (3, .pointer (some ⟨b3158, 0, none⟩)), (6, .slice p3430 r3428.1.length c3431), (7, .bool r3428.2), (9, .slice p6752 r6818.2.length c6753), (12, .int .i64 r6818.1), (13, .int .i64 1), (76, .slice p6752 r6818.2.length c6753), (77, .int .i64 1)] w6822 (by kernel_rfl) ?_
  obtain ⟨r6825, hr6825, hm⟩ := gx_bind hm
  refine W_call 29 #[.slice p6752 r6818.2.length c6753, .int .i64 1] (by kernel_rfl) (by kernel_rfl) ?_
  refine (c_l_heldEventS w6822 r6818.2 p6752 c6753 (ho6820.rd M6824 2 (by kernel_rfl)) 1 hr6825).mono ?_
  rintro e_ w6826 ⟨rfl, K6827⟩
  have M6828 := M6824.call0 K6827
  refine ⟨_, rfl, ?_⟩
  refine W_run 1 [(0, .slice p3153 x3151.length c3154), (3, .pointer (some ⟨b3158, 0, none⟩)), (6, .slice p3430 r3428.1.length c3431), (7, .bool r3428.2), (9, .slice p6752 r6818.2.length c6753), (12, .int .i64 r6818.1), (13, .int .i64 r6825)] w6826 (by kernel_rfl) ?_
  refine W_nil ?_
  refine N_then ?_
  refine G_seq ?_
  refine G_seq ?_
  refine G_region ?_
  refine W_run 2 [(0, .slice p3153 x3151.length c3154), (3, .pointer (some ⟨b3158, 0, none⟩)), (6, .slice p3430 r3428.1.length c3431), (7, .bool r3428.2), (9, .slice p6752 r6818.2.length c6753), (12, .int .i64 r6818.1), (13, .int .i64 r6825), (80, .bool (decide (r6825 < 0)))] w6826 (by kernel_rfl) ?_
  refine W_nil ?_
  refine N_then ?_
  rcases gx_bif hm with ⟨hc6829, hm⟩ | ⟨hc6829, hm⟩
  · refine G_cond_t (b := (decide (r6825 < 0))) hc6829 (by kernel_rfl) ?_
    refine G_seq ?_
    refine G_region ?_
    refine W_run 1 [(4, .bool false)] w6826 (by kernel_rfl) ?_
    refine W_nil ?_
    refine N_then ?_
    refine G_ret ?_
    refine N_then_ret ?_
    obtain rfl := Option.some.inj hm
    refine N_ret [.bool false] (RVs_cons (RV_tmp (by kernel_rfl)) RVs_nil) ?_
    exact ⟨rfl, M6828.pick [] (by kernel_rfl)⟩
  refine G_cond_f (b := (decide (r6825 < 0))) hc6829 (by kernel_rfl) ?_
  refine G_skip ?_
  refine N_then ?_
  refine G_seq ?_
  refine G_seq ?_
  refine G_region ?_
  refine W_run 3 [(0, .slice p3153 x3151.length c3154), (3, .pointer (some ⟨b3158, 0, none⟩)), (6, .slice p3430 r3428.1.length c3431), (7, .bool r3428.2), (9, .slice p6752 r6818.2.length c6753), (12, .int .i64 r6818.1), (83, .bool (r6825 != r6818.1))] w6826 (by kernel_rfl) ?_
  refine W_nil ?_
  refine N_then ?_
  rcases gx_bif hm with ⟨hc6830, hm⟩ | ⟨hc6830, hm⟩
  · refine G_cond_t (b := (r6825 != r6818.1)) hc6830 (by kernel_rfl) ?_
    refine G_seq ?_
    refine G_region ?_
    refine W_run 1 [(4, .bool false)] w6826 (by kernel_rfl) ?_
    refine W_nil ?_
    refine N_then ?_
    refine G_ret ?_
    refine N_then_ret ?_
    obtain rfl := Option.some.inj hm
    refine N_ret [.bool false] (RVs_cons (RV_tmp (by kernel_rfl)) RVs_nil) ?_
    exact ⟨rfl, M6828.pick [] (by kernel_rfl)⟩
  refine G_cond_f (b := (r6825 != r6818.1)) hc6830 (by kernel_rfl) ?_
  refine G_skip ?_
  refine N_then ?_
  refine G_seq ?_
  obtain ⟨r6833, hr6833, hm⟩ := gx_bind hm
  obtain ⟨r6839, hr6839, hm⟩ := gx_bind hm
  obtain ⟨r6840, hr6840, hm⟩ := gx_bind hm
  refine G_sub [(0, .slice p3153 x3151.length c3154), (3, .pointer (some ⟨b3158, 0, none⟩)), (6, .slice p3430 r3428.1.length c3431), (7, .bool r3428.2), (9, .slice p6752 r6818.2.length c6753), (12, .int .i64 r6818.1), (83, .bool (r6825 != r6818.1))] (by kernel_rfl) ?_
  refine G_dagL 9 [[], [0], [], [2], [1, 3], [], [5], [5], [6]] [[], [], [], [], [], [], [], [], []] [[], [], [], [], [1], [], [], [], []] [[], [], [], [], [], [4], [4], [4], [4]] [[], [], [], [], [], [4], [4], [], [4]] [[], [], [], [], [], [], [], [], []] (fun _ => []) (fun i => ([fun f v s => v = (.slice p3153 x3151.length c3154 : Value) ∧ s = [], fun f v s => ∃ (p6835 : Option Addr) (c6836 : Nat), v = (.slice p6835 r6833.length c6836 : Value) ∧ ownS encEvent r6833 p6835 c6836 s, fun f v s => v = (.agg #[.int .i64 x3156.Tick, .int .i64 x3156.Guest, .string x3156.Kind, .int .i64 x3156.Value] : Value) ∧ s = [], fun f v s => v = (.agg #[.int .i64 r6839.Tick, .int .i64 r6839.Guest, .string r6839.Kind, .int .i64 r6839.Value] : Value) ∧ s = [], fun f v s => ∃ (p6842 : Option Addr) (c6843 : Nat), v = (.tuple #[.slice p6842 r6840.1.length c6843, .bool r6840.2] : Value) ∧ ownS encEvent r6840.1 p6842 c6843 s, fun f v s => v = (.tuple #[(atPath (f 4) [0]), .bool r6840.2] : Value) ∧ s = [], fun f v s => v = ((atPath (f 4) [0]) : Value) ∧ s = [], fun f v s => v = (.bool r6840.2 : Value) ∧ s = [], fun f v s => v = ((atPath (f 4) [0]) : Value) ∧ s = []] : List ((Nat → Value) → Value → Seg → Prop)).getD i (fun _ _ _ => False)) (fun j f v => ∃ s, (fun i => ([fun f v s => v = (.slice p3153 x3151.length c3154 : Value) ∧ s = [], fun f v s => ∃ (p6835 : Option Addr) (c6836 : Nat), v = (.slice p6835 r6833.length c6836 : Value) ∧ ownS encEvent r6833 p6835 c6836 s, fun f v s => v = (.agg #[.int .i64 x3156.Tick, .int .i64 x3156.Guest, .string x3156.Kind, .int .i64 x3156.Value] : Value) ∧ s = [], fun f v s => v = (.agg #[.int .i64 r6839.Tick, .int .i64 r6839.Guest, .string r6839.Kind, .int .i64 r6839.Value] : Value) ∧ s = [], fun f v s => ∃ (p6842 : Option Addr) (c6843 : Nat), v = (.tuple #[.slice p6842 r6840.1.length c6843, .bool r6840.2] : Value) ∧ ownS encEvent r6840.1 p6842 c6843 s, fun f v s => v = (.tuple #[(atPath (f 4) [0]), .bool r6840.2] : Value) ∧ s = [], fun f v s => v = ((atPath (f 4) [0]) : Value) ∧ s = [], fun f v s => v = (.bool r6840.2 : Value) ∧ s = [], fun f v s => v = ((atPath (f 4) [0]) : Value) ∧ s = []] : List ((Nat → Value) → Value → Seg → Prop)).getD i (fun _ _ _ => False)) j f v s) [] [1, 4, 7, 8] [1, 4] (fun _ _ _ s h => ⟨s, h⟩) (by kernel_rfl) (by kernel_rfl) (M6828.preNil 9) (by kernel_rfl) (by kernel_rfl) (by kernel_rfl) (by kernel_rfl) (allOb_cons ?_ (allOb_cons ?_ (allOb_cons ?_ (allOb_cons ?_ (allOb_cons ?_ (allOb_cons ?_ (allOb_cons ?_ (allOb_cons ?_ (allOb_cons ?_ allOb_nil))))))))) ?_
  · intro g6831 f6832
    intro R w6846 M6847
    refine W_run 1 [(85, .slice p3153 x3151.length c3154)] w6846 (by kernel_rfl) ?_
    exact W_nil (ob_end (.slice p3153 x3151.length c3154) [] rfl (by kernel_rfl) ⟨by kernel_rfl, rfl⟩ M6847)
  · intro g6831 f6832
    intro v0_ hb0_
    obtain ⟨rfl, _⟩ := hb0_
    intro R w6850 M6851
    refine W_call 19 #[.slice p3153 x3151.length c3154] (by kernel_rfl) (by kernel_rfl) ?_
    refine (c_l_toEventS w6850 x3151 p3153 c3154 (h3155.mem0 M6851) hr6833).mono ?_
    rintro e_ w6852 ⟨p6835, c6836, sg6837, rfl, ho6838, K6854⟩
    refine ⟨_, rfl, ?_⟩
    exact W_nil (ob_end (.slice p6835 r6833.length c6836) sg6837 rfl (by kernel_rfl) ⟨p6835, c6836, rfl, ho6838⟩ (Mem.callMid M6851 K6854))
  · intro g6831 f6832
    intro R w6855 M6856
    refine W_val (.agg #[.int .i64 x3156.Tick, .int .i64 x3156.Guest, .string x3156.Kind, .int .i64 x3156.Value]) w6855 (by kernel_rfl) (E_load (e := 23) (fr := (0, 0)) _ _ true 4 b3158 0 [.int .i64 x3156.Tick, .int .i64 x3156.Guest, .string x3156.Kind, .int .i64 x3156.Value] (.agg #[.int .i64 x3156.Tick, .int .i64 x3156.Guest, .string x3156.Kind, .int .i64 x3156.Value]) rfl (by kernel_rfl) (by kernel_rfl) (by kernel_rfl) (M6856.blk 0 (b := b3158) (o := .cells ⟨[.int .i64 x3156.Tick, .int .i64 x3156.Guest, .string x3156.Kind, .int .i64 x3156.Value]⟩ 23 (0, 0)) (by kernel_rfl))) ?_
    exact W_nil (ob_end (.agg #[.int .i64 x3156.Tick, .int .i64 x3156.Guest, .string x3156.Kind, .int .i64 x3156.Value]) [] rfl (by kernel_rfl) ⟨by kernel_rfl, rfl⟩ M6856)
  · intro g6831 f6832
    intro v2_ hb2_
    obtain ⟨rfl, _⟩ := hb2_
    intro R w6859 M6860
    refine W_call 15 #[.agg #[.int .i64 x3156.Tick, .int .i64 x3156.Guest, .string x3156.Kind, .int .i64 x3156.Value]] (by kernel_rfl) (by kernel_rfl) ?_
    refine (c_l_toEvent w6859 x3156 hr6839).mono ?_
    rintro e_ w6861 ⟨rfl, K6863⟩
    refine ⟨_, rfl, ?_⟩
    exact W_nil (ob_end (.agg #[.int .i64 r6839.Tick, .int .i64 r6839.Guest, .string r6839.Kind, .int .i64 r6839.Value]) [] rfl (by kernel_rfl) ⟨rfl, rfl⟩ (M6860.call0 K6863))
  · intro g6831 f6832
    intro v1_ hb1_
    obtain ⟨p6835, c6836, rfl, ho6838⟩ := hb1_
    intro v3_ hb3_
    obtain ⟨rfl, _⟩ := hb3_
    intro R w6864 M6865
    refine W_call 33 #[.slice p6835 r6833.length c6836, .agg #[.int .i64 r6839.Tick, .int .i64 r6839.Guest, .string r6839.Kind, .int .i64 r6839.Value]] (by kernel_rfl) (by kernel_rfl) ?_
    refine (c_i_AddEvent w6864 r6833 p6835 c6836 (ho6838.rd M6865 4 (by kernel_rfl)) r6839 hr6840).mono ?_
    rintro e_ w6866 ⟨p6842, c6843, sg6844, rfl, ho6845, K6868⟩
    refine ⟨_, rfl, ?_⟩
    exact W_nil (ob_end (.tuple #[.slice p6842 r6840.1.length c6843, .bool r6840.2]) sg6844 rfl (by kernel_rfl) ⟨p6842, c6843, rfl, ho6845⟩ (Mem.callMid M6865 K6868))
  · intro g6831 f6832
    intro v4_ hb4_
    obtain ⟨_, p6842, c6843, rfl, _⟩ := hb4_
    intro R w6869 M6870
    refine W_run 1 [(84, .tuple #[.slice p6842 r6840.1.length c6843, .bool r6840.2])] w6869 (by kernel_rfl) ?_
    exact W_nil (ob_end (.tuple #[.slice p6842 r6840.1.length c6843, .bool r6840.2]) [] rfl (by kernel_rfl) ⟨by kernel_rfl, rfl⟩ M6870)
  · intro g6831 f6832
    intro v4_ hb4_
    obtain ⟨_, p6842, c6843, rfl, _⟩ := hb4_
    intro v5_ hb5_
    obtain ⟨hv5_, _⟩ := hb5_
    obtain rfl : v5_ = (.tuple #[.slice p6842 r6840.1.length c6843, .bool r6840.2] : Value) := hv5_.trans (by kernel_rfl)
    intro R w6873 M6874
    refine W_run 1 [(90, .slice p6842 r6840.1.length c6843)] w6873 (by kernel_rfl) ?_
    exact W_nil (ob_end (.slice p6842 r6840.1.length c6843) [] rfl (by kernel_rfl) ⟨by kernel_rfl, rfl⟩ M6874)
  · intro g6831 f6832
    intro v4_ hb4_
    obtain ⟨_, p6842, c6843, rfl, _⟩ := hb4_
    intro v5_ hb5_
    obtain ⟨hv5_, _⟩ := hb5_
    obtain rfl : v5_ = (.tuple #[.slice p6842 r6840.1.length c6843, .bool r6840.2] : Value) := hv5_.trans (by kernel_rfl)
    intro R w6877 M6878
    refine W_run 1 [(91, .bool r6840.2)] w6877 (by kernel_rfl) ?_
    exact W_nil (ob_end (.bool r6840.2) [] rfl (by kernel_rfl) ⟨by kernel_rfl, rfl⟩ M6878)
  · intro g6831 f6832
    intro v4_ hb4_
    obtain ⟨_, p6842, c6843, rfl, _⟩ := hb4_
    intro v6_ hb6_
    obtain ⟨hv6_, _⟩ := hb6_
    obtain rfl : v6_ = (.slice p6842 r6840.1.length c6843 : Value) := hv6_.trans (by kernel_rfl)
    intro R w6881 M6882
    refine W_run 1 [(14, .slice p6842 r6840.1.length c6843)] w6881 (by kernel_rfl) ?_
    exact W_nil (ob_end (.slice p6842 r6840.1.length c6843) [] rfl (by kernel_rfl) ⟨by kernel_rfl, rfl⟩ M6882)
  intro g6831 f6832
  intro v1_ hb1_
  obtain ⟨p6835, c6836, rfl, ho6838⟩ := hb1_
  intro v4_ hb4_
  obtain ⟨p6842, c6843, rfl, ho6845⟩ := hb4_
  intro v7_ hb7_
  obtain ⟨rfl, _⟩ := hb7_
  intro v8_ hb8_
  obtain ⟨hv8_, _⟩ := hb8_
  obtain rfl : v8_ = (.slice p6842 r6840.1.length c6843 : Value) := hv8_.trans (by kernel_rfl)
  intro w6885 M6886
  have M6887 : Mem [] w w6885 [[(b3158, .cells ⟨[.int .i64 x3156.Tick, .int .i64 x3156.Guest, .string x3156.Kind, .int .i64 x3156.Value]⟩ 23 (0, 0))], (g3171 4), sg6819, (g6831 1), (g6831 4)] := M6886
  refine W_run 1 [(6, .slice p3430 r3428.1.length c3431), (7, .bool r3428.2), (9, .slice p6752 r6818.2.length c6753), (12, .int .i64 r6818.1), (14, .slice p6842 r6840.1.length c6843), (15, .bool r6840.2)] w6885 (by kernel_rfl) ?_
  refine W_nil ?_
  refine N_then ?_
  refine G_seq ?_
  refine G_seq ?_
  obtain ⟨o6893, ho6894, hm6895⟩ := gx_bind hm
  refine G_meet (fun a w' => Mem [] w w' [sg6819] ∧ Sat Try.f9.ntmps [(9, .slice p6752 r6818.2.length c6753), (12, .int .i64 r6818.1), (100, .bool o6893)] a) ?_ ?_
  · have hm := ho6894
    refine G_region ?_
    refine W_run 2 [(7, .bool r3428.2), (9, .slice p6752 r6818.2.length c6753), (12, .int .i64 r6818.1), (15, .bool r6840.2), (92, .slice p6842 r6840.1.length c6843), (93, .slice p3430 r3428.1.length c3431)] w6885 (by kernel_rfl) ?_
    obtain ⟨r6896, hr6896, hm⟩ := gx_bind hm
    refine W_call 21 #[.slice p6842 r6840.1.length c6843, .slice p3430 r3428.1.length c3431] (by kernel_rfl) (by kernel_rfl) ?_
    refine (c_l_eqEventS w6885 r6840.1 p6842 c6843 (ho6845.rd M6887 4 (by kernel_rfl)) r3428.1 p3430 c3431 (ho3433.rd M6887 1 (by kernel_rfl)) hr6896).mono ?_
    rintro e_ w6897 ⟨rfl, K6898⟩
    have M6899 := M6887.call0 K6898
    refine ⟨_, rfl, ?_⟩
    refine W_run 2 [(7, .bool r3428.2), (9, .slice p6752 r6818.2.length c6753), (12, .int .i64 r6818.1), (15, .bool r6840.2), (96, .bool (!r6896))] w6897 (by kernel_rfl) ?_
    rcases gx_bif hm with ⟨hc6900, hm⟩ | ⟨hc6900, hm⟩
    · refine W_known 96 true (by kernel_rfl) hc6900 ?_
      refine W_run 4 [(9, .slice p6752 r6818.2.length c6753), (12, .int .i64 r6818.1), (100, .bool true)] w6897 (by kernel_rfl) ?_
      refine W_nil ?_
      obtain rfl := Option.some.inj hm
      exact N_meet fun a ha => ⟨M6899.pick [2] (by kernel_rfl), ha.sub (by kernel_rfl)⟩
    refine W_known 96 false (by kernel_rfl) hc6900 ?_
    refine W_run 4 [(9, .slice p6752 r6818.2.length c6753), (12, .int .i64 r6818.1), (100, .bool (!(r6840.2 == r3428.2)))] w6897 (by kernel_rfl) ?_
    refine W_nil ?_
    obtain rfl := Option.some.inj hm
    exact N_meet fun a ha => ⟨M6899.pick [2] (by kernel_rfl), ha.sub (by kernel_rfl)⟩
  intro a6903 w6901 ⟨M6902, hS6904⟩
  refine N_use hS6904 ?_
  have hm := hm6895
  refine N_then ?_
  rcases gx_bif hm with ⟨hc6905, hm⟩ | ⟨hc6905, hm⟩
  · refine G_cond_t (b := o6893) hc6905 (by kernel_rfl) ?_
    refine G_seq ?_
    refine G_region ?_
    refine W_run 1 [(4, .bool false)] w6901 (by kernel_rfl) ?_
    refine W_nil ?_
    refine N_then ?_
    refine G_ret ?_
    refine N_then_ret ?_
    obtain rfl := Option.some.inj hm
    refine N_ret [.bool false] (RVs_cons (RV_tmp (by kernel_rfl)) RVs_nil) ?_
    exact ⟨rfl, M6902.pick [] (by kernel_rfl)⟩
  refine G_cond_f (b := o6893) hc6905 (by kernel_rfl) ?_
  refine G_skip ?_
  refine N_then ?_
  refine G_seq ?_
  refine G_region ?_
  refine W_run 1 [(9, .slice p6752 r6818.2.length c6753), (12, .int .i64 r6818.1), (13, .int .i64 1)] w6901 (by kernel_rfl) ?_
  refine W_nil ?_
  refine N_then ?_
  refine G_seq ?_
  refine G_region ?_
  refine W_run 2 [(12, .int .i64 r6818.1), (13, .int .i64 1), (101, .slice p6752 r6818.2.length c6753), (102, .int .i64 1)] w6901 (by kernel_rfl) ?_
  obtain ⟨r6906, hr6906, hm⟩ := gx_bind hm
  refine W_call 29 #[.slice p6752 r6818.2.length c6753, .int .i64 1] (by kernel_rfl) (by kernel_rfl) ?_
  refine (c_l_heldEventS w6901 r6818.2 p6752 c6753 (ho6820.rd M6902 0 (by kernel_rfl)) 1 hr6906).mono ?_
  rintro e_ w6907 ⟨rfl, K6908⟩
  have M6909 := M6902.call0 K6908
  refine ⟨_, rfl, ?_⟩
  refine W_run 1 [(12, .int .i64 r6818.1), (13, .int .i64 r6906)] w6907 (by kernel_rfl) ?_
  refine W_nil ?_
  refine N_then ?_
  refine G_seq ?_
  refine G_seq ?_
  refine G_region ?_
  refine W_run 2 [(12, .int .i64 r6818.1), (13, .int .i64 r6906), (105, .bool (decide (r6906 < 0)))] w6907 (by kernel_rfl) ?_
  refine W_nil ?_
  refine N_then ?_
  rcases gx_bif hm with ⟨hc6910, hm⟩ | ⟨hc6910, hm⟩
  · refine G_cond_t (b := (decide (r6906 < 0))) hc6910 (by kernel_rfl) ?_
    refine G_seq ?_
    refine G_region ?_
    refine W_run 1 [(4, .bool false)] w6907 (by kernel_rfl) ?_
    refine W_nil ?_
    refine N_then ?_
    refine G_ret ?_
    refine N_then_ret ?_
    obtain rfl := Option.some.inj hm
    refine N_ret [.bool false] (RVs_cons (RV_tmp (by kernel_rfl)) RVs_nil) ?_
    exact ⟨rfl, M6909.pick [] (by kernel_rfl)⟩
  refine G_cond_f (b := (decide (r6906 < 0))) hc6910 (by kernel_rfl) ?_
  refine G_skip ?_
  refine N_then ?_
  refine G_seq ?_
  refine G_seq ?_
  refine G_region ?_
  refine W_run 3 [(108, .bool (r6906 != r6818.1))] w6907 (by kernel_rfl) ?_
  refine W_nil ?_
  refine N_then ?_
  rcases gx_bif hm with ⟨hc6911, hm⟩ | ⟨hc6911, hm⟩
  · refine G_cond_t (b := (r6906 != r6818.1)) hc6911 (by kernel_rfl) ?_
    refine G_seq ?_
    refine G_region ?_
    refine W_run 1 [(4, .bool false)] w6907 (by kernel_rfl) ?_
    refine W_nil ?_
    refine N_then ?_
    refine G_ret ?_
    refine N_then_ret ?_
    obtain rfl := Option.some.inj hm
    refine N_ret [.bool false] (RVs_cons (RV_tmp (by kernel_rfl)) RVs_nil) ?_
    exact ⟨rfl, M6909.pick [] (by kernel_rfl)⟩
  refine G_cond_f (b := (r6906 != r6818.1)) hc6911 (by kernel_rfl) ?_
  refine G_skip ?_
  refine N_then ?_
  refine G_seq ?_
  refine G_region ?_
  refine W_run 1 [(4, .bool true)] w6907 (by kernel_rfl) ?_
  refine W_nil ?_
  refine N_then ?_
  refine G_ret ?_
  obtain rfl := Option.some.inj hm
  refine N_ret [.bool true] (RVs_cons (RV_tmp (by kernel_rfl)) RVs_nil) ?_
  exact ⟨rfl, M6909.pick [] (by kernel_rfl)⟩
theorem c_s_MergeRecords (w : World) (x6950 : List Event) (p6952 : Option Addr) (c6953 : Nat) (h6954 : rdS encEvent w x6950 p6952 c6953) (x6955 : List Event) (p6957 : Option Addr) (c6958 : Nat) (h6959 : rdS encEvent w x6955 p6957 c6958) {r : (List Event) × Bool} (hm : M.s_MergeRecords x6950 x6955 = some r) :
    Calls Try.prog 34 #[.slice p6952 x6950.length c6953, .slice p6957 x6955.length c6958] w fun e w' => ∃ (p6961 : Option Addr) (c6962 : Nat) (sg6963 : Seg), e = .returned (.tuple #[.slice p6961 r.1.length c6962, .bool r.2]) ∧ ownS encEvent r.1 p6961 c6962 sg6963 ∧ Mem [] w w' [sg6963] := by
  unfold M.s_MergeRecords at hm
  refine C_enter Try.func34 rfl (by kernel_rfl) ?_
  have M0 := Mem.refl [] w
  refine G_seq ?_
  refine G_region ?_
  refine W_run 2 [(0, .slice p6952 x6950.length c6953), (1, .slice p6957 x6955.length c6958)] w (by kernel_rfl) ?_
  refine W_nil ?_
  refine N_then ?_
  refine G_seq ?_
  refine G_seq ?_
  obtain ⟨o6975, ho6976, hm6977⟩ := gx_bind hm
  refine G_meet (fun a w' => Mem [] w w' [] ∧ Sat Try.f34.ntmps [(0, .slice p6952 x6950.length c6953), (1, .slice p6957 x6955.length c6958), (23, .bool o6975)] a) ?_ ?_
  · have hm := ho6976
    refine G_region ?_
    refine W_run 1 [(0, .slice p6952 x6950.length c6953), (1, .slice p6957 x6955.length c6958), (8, .slice p6952 x6950.length c6953)] w (by kernel_rfl) ?_
    obtain ⟨r6978, hr6978, hm⟩ := gx_bind hm
    refine W_call 56 #[.slice p6952 x6950.length c6953] (by kernel_rfl) (by kernel_rfl) ?_
    refine (c_s_l22Good w x6950 p6952 c6953 (h6954.mem0 M0) hr6978).mono ?_
    rintro e_ w6979 ⟨rfl, K6980⟩
    have M6981 := M0.call0 K6980
    refine ⟨_, rfl, ?_⟩
    refine W_run 2 [(0, .slice p6952 x6950.length c6953), (1, .slice p6957 x6955.length c6958), (11, .bool (!r6978))] w6979 (by kernel_rfl) ?_
    rcases gx_bif hm with ⟨hc6982, hm⟩ | ⟨hc6982, hm⟩
    · refine W_known 11 true (by kernel_rfl) hc6982 ?_
      refine W_run 12 [(0, .slice p6952 x6950.length c6953), (1, .slice p6957 x6955.length c6958), (23, .bool true)] w6979 (by kernel_rfl) ?_
      refine W_nil ?_
      obtain rfl := Option.some.inj hm
      exact N_meet fun a ha => ⟨M6981.pick [] (by kernel_rfl), ha.sub (by kernel_rfl)⟩
    refine W_known 11 false (by kernel_rfl) hc6982 ?_
    refine W_run 1 [(0, .slice p6952 x6950.length c6953), (1, .slice p6957 x6955.length c6958), (11, .bool false), (12, .slice p6957 x6955.length c6958)] w6979 (by kernel_rfl) ?_
    obtain ⟨r6983, hr6983, hm⟩ := gx_bind hm
    refine W_call 56 #[.slice p6957 x6955.length c6958] (by kernel_rfl) (by kernel_rfl) ?_
    refine (c_s_l22Good w6979 x6955 p6957 c6958 (h6959.mem0 M6981) hr6983).mono ?_
    rintro e_ w6984 ⟨rfl, K6985⟩
    have M6986 := M6981.call0 K6985
    refine ⟨_, rfl, ?_⟩
    refine W_run 3 [(0, .slice p6952 x6950.length c6953), (1, .slice p6957 x6955.length c6958), (16, .bool (!r6983))] w6984 (by kernel_rfl) ?_
    rcases gx_bif hm with ⟨hc6987, hm⟩ | ⟨hc6987, hm⟩
    · refine W_known 16 true (by kernel_rfl) hc6987 ?_
      refine W_run 7 [(0, .slice p6952 x6950.length c6953), (1, .slice p6957 x6955.length c6958), (23, .bool true)] w6984 (by kernel_rfl) ?_
      refine W_nil ?_
      obtain rfl := Option.some.inj hm
      exact N_meet fun a ha => ⟨M6986.pick [] (by kernel_rfl), ha.sub (by kernel_rfl)⟩
    refine W_known 16 false (by kernel_rfl) hc6987 ?_
    refine W_run 7 [(0, .slice p6952 x6950.length c6953), (1, .slice p6957 x6955.length c6958), (23, .bool (decide ((w64 ((x6950.length : Int) + (x6955.length : Int))) > 30)))] w6984 (by kernel_rfl) ?_
    refine W_nil ?_
    obtain rfl := Option.some.inj hm
    exact N_meet fun a ha => ⟨M6986.pick [] (by kernel_rfl), ha.sub (by kernel_rfl)⟩
  intro a6990 w6988 ⟨M6989, hS6991⟩
  refine N_use hS6991 ?_
  have hm := hm6977
  refine N_then ?_
  rcases gx_bif hm with ⟨hc6992, hm⟩ | ⟨hc6992, hm⟩
  · refine G_cond_t (b := o6975) hc6992 (by kernel_rfl) ?_
    refine G_seq ?_
    refine G_region ?_
    refine W_lit (E := encEvent) ([] : List Event) 0 [] 26 M6989 (by kernel_rfl) (by kernel_rfl) (by kernel_rfl) (by kernel_rfl) (by kernel_rfl) ?_
    intro p6993 c6994 sg6995 w6996 ho6997 M6998
    refine W_run 2 [(4, .slice p6993 ([] : List Event).length c6994), (5, .bool false)] w6996 (by kernel_rfl) ?_
    refine W_nil ?_
    refine N_then ?_
    refine G_ret ?_
    refine N_then_ret ?_
    obtain rfl := Option.some.inj hm
    refine N_ret [.slice p6993 ([] : List Event).length c6994, .bool false] (RVs_cons (RV_tmp (by kernel_rfl)) (RVs_cons (RV_tmp (by kernel_rfl)) RVs_nil)) ?_
    exact ⟨p6993, c6994, sg6995, rfl, ho6997, M6998.pick [0] (by kernel_rfl)⟩
  refine G_cond_f (b := o6975) hc6992 (by kernel_rfl) ?_
  refine G_skip ?_
  refine N_then ?_
  refine G_seq ?_
  refine G_region ?_
  refine W_lit (E := encEvent) ([] : List Event) 0 [] 26 M6989 (by kernel_rfl) (by kernel_rfl) (by kernel_rfl) (by kernel_rfl) (by kernel_rfl) ?_
  intro p7000 c7001 sg7002 w7003 ho7004 M7005
  refine W_run 1 [(1, .slice p6957 x6955.length c6958), (25, .slice p7000 ([] : List Event).length c7001), (26, .slice p6952 x6950.length c6953)] w7003 (by kernel_rfl) ?_
  obtain ⟨ap7007, hap7007, hm⟩ := gx_bind hm
  refine W_append (E := encEvent) _ _ _ 40 [.int .i64 0, .int .i64 0, .string ByteArray.empty, .int .i64 0] 0 c6953 M7005 ho7004 (by kernel_rfl) (by kernel_rfl) (by kernel_rfl) rfl (by kernel_rfl) (by kernel_rfl) (by kernel_rfl) (by kernel_rfl) (by kernel_rfl) (by kernel_rfl) (h6954.mem0 M7005) hap7007 ?_
  intro p7008 c7009 sg7010 w7011 ho7012 M7013
  refine W_run 1 [(1, .slice p6957 x6955.length c6958), (6, .slice p7008 ap7007.length c7009)] w7011 (by kernel_rfl) ?_
  refine W_nil ?_
  refine N_then ?_
  refine G_seq ?_
  refine G_seq ?_
  refine G_region ?_
  refine W_run 1 [(1, .slice p6957 x6955.length c6958), (6, .slice p7008 ap7007.length c7009), (7, .int .i64 0)] w7011 (by kernel_rfl) ?_
  refine W_nil ?_
  refine N_then ?_
  obtain ⟨out7049, hw7050, hmo7051⟩ := gx_bind hm
  refine G_meet (fun a w' => ∃ (p7058 : Option Addr), ∃ (c7059 : Nat), ∃ (sg7060 : Seg), ownS encEvent out7049 p7058 c7059 sg7060 ∧ Mem [] w w' [sg7060] ∧ Sat Try.f34.ntmps [(6, .slice p7058 out7049.length c7059)] a) ?_ ?_
  · refine G_block ?_
    refine G_while (σ := List Event × Int) (ρ := List Event) (fun s7042 a w' => ∃ (p7052 : Option Addr), ∃ (c7053 : Nat), ∃ (sg7054 : Seg), ownS encEvent s7042.1 p7052 c7053 sg7054 ∧ Mem [] w w' [sg7054] ∧ Sat Try.f34.ntmps [(1, .slice p6957 x6955.length c6958), (6, .slice p7052 s7042.1.length c7053), (7, .int .i64 s7042.2)] a) hw7050 (fun a ha => ⟨p7008, c7009, sg7010, ho7012, M7013.pick [0] (by kernel_rfl), ha.sub (by kernel_rfl)⟩) ?_
    clear hm
    intro s7042 x7043 hm hout7044 a7045 w7046 ⟨p7052, c7053, sg7054, ho7055, M7047, hS7048⟩
    refine G_use hS7048 ?_
    refine G_seq ?_
    refine G_seq ?_
    refine G_region ?_
    refine W_run 4 [(1, .slice p6957 x6955.length c6958), (6, .slice p7052 s7042.1.length c7053), (7, .int .i64 s7042.2), (31, .bool (decide (s7042.2 < (x6955.length : Int))))] w7046 (by kernel_rfl) ?_
    refine W_nil ?_
    refine N_then ?_
    rcases gx_bif hm with ⟨hc7063, hm⟩ | ⟨hc7063, hm⟩
    · refine G_cond_t (b := (decide (s7042.2 < (x6955.length : Int)))) hc7063 (by kernel_rfl) ?_
      refine G_skip ?_
      refine N_then ?_
      refine G_seq ?_
      refine G_block ?_
      refine G_region ?_
      refine W_run 3 [(1, .slice p6957 x6955.length c6958), (6, .slice p7052 s7042.1.length c7053), (7, .int .i64 s7042.2), (34, .slice p7052 s7042.1.length c7053), (35, .slice p6957 x6955.length c6958), (36, .int .i64 s7042.2)] w7046 (by kernel_rfl) ?_
      obtain ⟨y7064, hy7064, hm⟩ := gx_bind hm
      refine W_val (elemP p6957 (s7042.2.toNat * 4)) w7046 (by kernel_rfl) (E_index (E := encEvent) _ _ _ x6955.length c6958 .i64 s7042.2 4 (y := y7064) rfl (by kernel_rfl) (by kernel_rfl) (by kernel_rfl) (h6959.mem0 M7047) rfl hy7064) ?_
      refine W_val (.agg #[.int .i64 y7064.Tick, .int .i64 y7064.Guest, .string y7064.Kind, .int .i64 y7064.Value]) w7046 (by kernel_rfl) (E_loadE (E := encEvent) _ _ true 4 s7042.2 0 (s7042.2.toNat * 4) y7064 (.agg #[.int .i64 y7064.Tick, .int .i64 y7064.Guest, .string y7064.Kind, .int .i64 y7064.Value]) rfl (by kernel_rfl) (by kernel_rfl) (by kernel_rfl) (h6959.mem0 M7047) hy7064 rfl) ?_
      obtain ⟨r7065, hr7065, hm⟩ := gx_bind hm
      refine W_call 68 #[.slice p7052 s7042.1.length c7053, .agg #[.int .i64 y7064.Tick, .int .i64 y7064.Guest, .string y7064.Kind, .int .i64 y7064.Value]] (by kernel_rfl) (by kernel_rfl) ?_
      refine (c_s_l22Add w7046 s7042.1 p7052 c7053 (ho7055.rd M7047 0 (by kernel_rfl)) y7064 hr7065).mono ?_
      rintro e_ w7071 ⟨p7067, c7068, sg7069, rfl, ho7070, K7072⟩
      have M7073 := M7047.call K7072
      refine ⟨_, rfl, ?_⟩
      refine W_run 1 [(1, .slice p6957 x6955.length c6958), (6, .slice p7067 r7065.length c7068), (7, .int .i64 s7042.2)] w7071 (by kernel_rfl) ?_
      refine W_nil ?_
      refine N_block ?_
      refine N_then ?_
      refine G_region ?_
      refine W_run 3 [(1, .slice p6957 x6955.length c6958), (6, .slice p7067 r7065.length c7068), (7, .int .i64 (w64 (s7042.2 + 1)))] w7071 (by kernel_rfl) ?_
      refine W_nil ?_
      obtain rfl := Option.some.inj hm
      exact N_loop fun a ha => ⟨_, rfl, p7067, c7068, sg7069, ho7070, M7073.pick [1] (by kernel_rfl), ha.sub (by kernel_rfl)⟩
    refine G_cond_f (b := (decide (s7042.2 < (x6955.length : Int)))) hc7063 (by kernel_rfl) ?_
    refine G_exit ?_
    refine N_then_exit ?_
    refine N_then_exit ?_
    refine N_block_eq ?_
    obtain rfl := Option.some.inj hm
    obtain rfl := hout7044 _ rfl
    exact N_meet fun a ha => ⟨p7052, c7053, sg7054, ho7055, M7047.pick [0] (by kernel_rfl), ha.sub (by kernel_rfl)⟩
  intro a7074 w7075 ⟨p7058, c7059, sg7060, ho7061, M7076, hS7077⟩
  refine N_use hS7077 ?_
  have hm := hmo7051
  refine N_then ?_
  refine G_seq ?_
  refine G_region ?_
  refine W_run 3 [(4, .slice p7058 out7049.length c7059), (5, .bool true)] w7075 (by kernel_rfl) ?_
  refine W_nil ?_
  refine N_then ?_
  refine G_ret ?_
  obtain rfl := Option.some.inj hm
  refine N_ret [.slice p7058 out7049.length c7059, .bool true] (RVs_cons (RV_tmp (by kernel_rfl)) (RVs_cons (RV_tmp (by kernel_rfl)) RVs_nil)) ?_
  exact ⟨p7058, c7059, sg7060, rfl, ho7061, M7076.pick [0] (by kernel_rfl)⟩
theorem c_i_MergeRecords (w : World) (x7105 : List Event) (p7107 : Option Addr) (c7108 : Nat) (h7109 : rdS encEvent w x7105 p7107 c7108) (x7110 : List Event) (p7112 : Option Addr) (c7113 : Nat) (h7114 : rdS encEvent w x7110 p7112 c7113) {r : (List Event) × Bool} (hm : M.i_MergeRecords x7105 x7110 = some r) :
    Calls Try.prog 35 #[.slice p7107 x7105.length c7108, .slice p7112 x7110.length c7113] w fun e w' => ∃ (p7116 : Option Addr) (c7117 : Nat) (sg7118 : Seg), e = .returned (.tuple #[.slice p7116 r.1.length c7117, .bool r.2]) ∧ ownS encEvent r.1 p7116 c7117 sg7118 ∧ Mem [] w w' [sg7118] := by
  unfold M.i_MergeRecords at hm
  refine C_enter Try.func35 rfl (by kernel_rfl) ?_
  have M0 := Mem.refl [] w
  refine G_seq ?_
  refine G_region ?_
  refine W_run 2 [(0, .slice p7107 x7105.length c7108), (1, .slice p7112 x7110.length c7113)] w (by kernel_rfl) ?_
  refine W_nil ?_
  refine N_then ?_
  refine G_seq ?_
  refine G_seq ?_
  obtain ⟨o7129, ho7130, hm7131⟩ := gx_bind hm
  refine G_meet (fun a w' => Mem [] w w' [] ∧ Sat Try.f35.ntmps [(0, .slice p7107 x7105.length c7108), (1, .slice p7112 x7110.length c7113), (13, .bool o7129)] a) ?_ ?_
  · have hm := ho7130
    refine G_region ?_
    refine W_run 1 [(0, .slice p7107 x7105.length c7108), (1, .slice p7112 x7110.length c7113), (6, .slice p7107 x7105.length c7108)] w (by kernel_rfl) ?_
    obtain ⟨r7132, hr7132, hm⟩ := gx_bind hm
    refine W_call 20 #[.slice p7107 x7105.length c7108] (by kernel_rfl) (by kernel_rfl) ?_
    refine (c_i_IsRecord w x7105 p7107 c7108 (h7109.mem0 M0) hr7132).mono ?_
    rintro e_ w7133 ⟨rfl, K7134⟩
    have M7135 := M0.call0 K7134
    refine ⟨_, rfl, ?_⟩
    refine W_run 2 [(0, .slice p7107 x7105.length c7108), (1, .slice p7112 x7110.length c7113), (9, .bool (!r7132))] w7133 (by kernel_rfl) ?_
    rcases gx_bif hm with ⟨hc7136, hm⟩ | ⟨hc7136, hm⟩
    · refine W_known 9 true (by kernel_rfl) hc7136 ?_
      refine W_run 4 [(0, .slice p7107 x7105.length c7108), (1, .slice p7112 x7110.length c7113), (13, .bool true)] w7133 (by kernel_rfl) ?_
      refine W_nil ?_
      obtain rfl := Option.some.inj hm
      exact N_meet fun a ha => ⟨M7135.pick [] (by kernel_rfl), ha.sub (by kernel_rfl)⟩
    refine W_known 9 false (by kernel_rfl) hc7136 ?_
    refine W_run 1 [(0, .slice p7107 x7105.length c7108), (1, .slice p7112 x7110.length c7113), (9, .bool false), (10, .slice p7112 x7110.length c7113)] w7133 (by kernel_rfl) ?_
    obtain ⟨r7137, hr7137, hm⟩ := gx_bind hm
    refine W_call 20 #[.slice p7112 x7110.length c7113] (by kernel_rfl) (by kernel_rfl) ?_
    refine (c_i_IsRecord w7133 x7110 p7112 c7113 (h7114.mem0 M7135) hr7137).mono ?_
    rintro e_ w7138 ⟨rfl, K7139⟩
    have M7140 := M7135.call0 K7139
    refine ⟨_, rfl, ?_⟩
    refine W_run 2 [(0, .slice p7107 x7105.length c7108), (1, .slice p7112 x7110.length c7113), (13, .bool (!r7137))] w7138 (by kernel_rfl) ?_
    refine W_nil ?_
    obtain rfl := Option.some.inj hm
    exact N_meet fun a ha => ⟨M7140.pick [] (by kernel_rfl), ha.sub (by kernel_rfl)⟩
  intro a7143 w7141 ⟨M7142, hS7144⟩
  refine N_use hS7144 ?_
  have hm := hm7131
  refine N_then ?_
  rcases gx_bif hm with ⟨hc7145, hm⟩ | ⟨hc7145, hm⟩
  · refine G_cond_t (b := o7129) hc7145 (by kernel_rfl) ?_
    refine G_seq ?_
    refine G_region ?_
    refine W_run 2 [(4, .slice none 0 0), (5, .bool false)] w7141 (by kernel_rfl) ?_
    refine W_nil ?_
    refine N_then ?_
    refine G_ret ?_
    refine N_then_ret ?_
    obtain rfl := Option.some.inj hm
    refine N_ret [.slice none 0 0, .bool false] (RVs_cons (RV_tmp (by kernel_rfl)) (RVs_cons (RV_tmp (by kernel_rfl)) RVs_nil)) ?_
    exact ⟨none, 0, [], rfl, ownS_nil, M7142.pick [100000] (by kernel_rfl)⟩
  refine G_cond_f (b := o7129) hc7145 (by kernel_rfl) ?_
  refine G_skip ?_
  refine N_then ?_
  refine G_seq ?_
  refine G_region ?_
  refine W_run 2 [(14, .slice p7107 x7105.length c7108), (15, .slice p7112 x7110.length c7113)] w7141 (by kernel_rfl) ?_
  obtain ⟨r7147, hr7147, hm⟩ := gx_bind hm
  refine W_call 69 #[.slice p7107 x7105.length c7108, .slice p7112 x7110.length c7113] (by kernel_rfl) (by kernel_rfl) ?_
  refine (c_i_merged w7141 x7105 p7107 c7108 (h7109.mem0 M7142) x7110 p7112 c7113 (h7114.mem0 M7142) hr7147).mono ?_
  rintro e_ w7153 ⟨p7149, c7150, sg7151, rfl, ho7152, K7154⟩
  have M7155 := M7142.call K7154
  refine ⟨_, rfl, ?_⟩
  refine W_run 4 [(4, .slice p7149 r7147.1.length c7150), (5, .bool r7147.2)] w7153 (by kernel_rfl) ?_
  refine W_nil ?_
  refine N_then ?_
  refine G_ret ?_
  obtain rfl := Option.some.inj hm
  refine N_ret [.slice p7149 r7147.1.length c7150, .bool r7147.2] (RVs_cons (RV_tmp (by kernel_rfl)) (RVs_cons (RV_tmp (by kernel_rfl)) RVs_nil)) ?_
  exact ⟨p7149, c7150, sg7151, rfl, ho7152, M7155.pick [0] (by kernel_rfl)⟩
theorem c_l_FnExactMergeRecords (w : World) (x6912 : List Event) (p6914 : Option Addr) (c6915 : Nat) (h6916 : rdS encEvent w x6912 p6914 c6915) (x6917 : List Event) (p6919 : Option Addr) (c6920 : Nat) (h6921 : rdS encEvent w x6917 p6919 c6920) {r : Bool} (hm : M.l_FnExactMergeRecords x6912 x6917 = some r) :
    Calls Try.prog 10 #[.slice p6914 x6912.length c6915, .slice p6919 x6917.length c6920] w fun e w' => e = .returned (.bool r) ∧ Mem [] w w' [] := by
  unfold M.l_FnExactMergeRecords at hm
  refine C_enter Try.func10 rfl (by kernel_rfl) ?_
  have M0 := Mem.refl [] w
  refine G_seq ?_
  refine G_region ?_
  refine W_run 1 [(0, .slice p6914 x6912.length c6915), (1, .slice p6919 x6917.length c6920)] w (by kernel_rfl) ?_
  refine W_nil ?_
  refine N_then ?_
  refine G_seq ?_
  refine G_region ?_
  refine W_run 1 [(0, .slice p6914 x6912.length c6915), (1, .slice p6919 x6917.length c6920), (5, .int .i64 1048576)] w (by kernel_rfl) ?_
  refine W_nil ?_
  refine N_then ?_
  refine G_seq ?_
  refine G_region ?_
  refine W_run 2 [(0, .slice p6914 x6912.length c6915), (1, .slice p6919 x6917.length c6920), (5, .int .i64 1048576), (17, .slice p6914 x6912.length c6915), (18, .int .i64 1048576)] w (by kernel_rfl) ?_
  obtain ⟨r6922, hr6922, hm⟩ := gx_bind hm
  refine W_call 17 #[.slice p6914 x6912.length c6915, .int .i64 1048576] (by kernel_rfl) (by kernel_rfl) ?_
  refine (c_l_szEventS w x6912 p6914 c6915 (h6916.mem0 M0) 1048576 hr6922).mono ?_
  rintro e_ w6923 ⟨rfl, K6924⟩
  have M6925 := M0.call0 K6924
  refine ⟨_, rfl, ?_⟩
  refine W_run 1 [(0, .slice p6914 x6912.length c6915), (1, .slice p6919 x6917.length c6920), (5, .int .i64 r6922)] w6923 (by kernel_rfl) ?_
  refine W_nil ?_
  refine N_then ?_
  refine G_seq ?_
  refine G_seq ?_
  refine G_region ?_
  refine W_run 2 [(0, .slice p6914 x6912.length c6915), (1, .slice p6919 x6917.length c6920), (5, .int .i64 r6922), (21, .bool (decide (r6922 < 0)))] w6923 (by kernel_rfl) ?_
  refine W_nil ?_
  refine N_then ?_
  rcases gx_bif hm with ⟨hc6926, hm⟩ | ⟨hc6926, hm⟩
  · refine G_cond_t (b := (decide (r6922 < 0))) hc6926 (by kernel_rfl) ?_
    refine G_seq ?_
    refine G_region ?_
    refine W_run 1 [(4, .bool true)] w6923 (by kernel_rfl) ?_
    refine W_nil ?_
    refine N_then ?_
    refine G_ret ?_
    refine N_then_ret ?_
    obtain rfl := Option.some.inj hm
    refine N_ret [.bool true] (RVs_cons (RV_tmp (by kernel_rfl)) RVs_nil) ?_
    exact ⟨rfl, M6925.pick [] (by kernel_rfl)⟩
  refine G_cond_f (b := (decide (r6922 < 0))) hc6926 (by kernel_rfl) ?_
  refine G_skip ?_
  refine N_then ?_
  refine G_seq ?_
  refine G_region ?_
  refine W_run 2 [(0, .slice p6914 x6912.length c6915), (1, .slice p6919 x6917.length c6920), (5, .int .i64 r6922), (22, .slice p6919 x6917.length c6920), (23, .int .i64 r6922)] w6923 (by kernel_rfl) ?_
  obtain ⟨r6927, hr6927, hm⟩ := gx_bind hm
  refine W_call 17 #[.slice p6919 x6917.length c6920, .int .i64 r6922] (by kernel_rfl) (by kernel_rfl) ?_
  refine (c_l_szEventS w6923 x6917 p6919 c6920 (h6921.mem0 M6925) r6922 hr6927).mono ?_
  rintro e_ w6928 ⟨rfl, K6929⟩
  have M6930 := M6925.call0 K6929
  refine ⟨_, rfl, ?_⟩
  refine W_run 1 [(0, .slice p6914 x6912.length c6915), (1, .slice p6919 x6917.length c6920), (5, .int .i64 r6927)] w6928 (by kernel_rfl) ?_
  refine W_nil ?_
  refine N_then ?_
  refine G_seq ?_
  refine G_seq ?_
  refine G_region ?_
  refine W_run 2 [(0, .slice p6914 x6912.length c6915), (1, .slice p6919 x6917.length c6920), (26, .bool (decide (r6927 < 0)))] w6928 (by kernel_rfl) ?_
  refine W_nil ?_
  refine N_then ?_
  rcases gx_bif hm with ⟨hc6931, hm⟩ | ⟨hc6931, hm⟩
  · refine G_cond_t (b := (decide (r6927 < 0))) hc6931 (by kernel_rfl) ?_
    refine G_seq ?_
    refine G_region ?_
    refine W_run 1 [(4, .bool true)] w6928 (by kernel_rfl) ?_
    refine W_nil ?_
    refine N_then ?_
    refine G_ret ?_
    refine N_then_ret ?_
    obtain rfl := Option.some.inj hm
    refine N_ret [.bool true] (RVs_cons (RV_tmp (by kernel_rfl)) RVs_nil) ?_
    exact ⟨rfl, M6930.pick [] (by kernel_rfl)⟩
  refine G_cond_f (b := (decide (r6927 < 0))) hc6931 (by kernel_rfl) ?_
  refine G_skip ?_
  refine N_then ?_
  refine G_seq ?_
  refine G_region ?_
  refine W_run 1 [(0, .slice p6914 x6912.length c6915), (1, .slice p6919 x6917.length c6920), (28, .slice p6914 x6912.length c6915)] w6928 (by kernel_rfl) ?_
  obtain ⟨r6932, hr6932, hm⟩ := gx_bind hm
  refine W_call 19 #[.slice p6914 x6912.length c6915] (by kernel_rfl) (by kernel_rfl) ?_
  refine (c_l_toEventS w6928 x6912 p6914 c6915 (h6916.mem0 M6930) hr6932).mono ?_
  rintro e_ w6938 ⟨p6934, c6935, sg6936, rfl, ho6937, K6939⟩
  have M6940 := M6930.call K6939
  refine ⟨_, rfl, ?_⟩
  refine W_run 1 [(0, .slice p6914 x6912.length c6915), (1, .slice p6919 x6917.length c6920), (29, .slice p6934 r6932.length c6935), (30, .slice p6919 x6917.length c6920)] w6938 (by kernel_rfl) ?_
  obtain ⟨r6941, hr6941, hm⟩ := gx_bind hm
  refine W_call 19 #[.slice p6919 x6917.length c6920] (by kernel_rfl) (by kernel_rfl) ?_
  refine (c_l_toEventS w6938 x6917 p6919 c6920 (h6921.mem0 M6940) hr6941).mono ?_
  rintro e_ w6947 ⟨p6943, c6944, sg6945, rfl, ho6946, K6948⟩
  have M6949 := M6940.call K6948
  refine ⟨_, rfl, ?_⟩
  obtain ⟨r7078, hr7078, hm⟩ := gx_bind hm
  refine W_call 34 #[.slice p6934 r6932.length c6935, .slice p6943 r6941.length c6944] (by kernel_rfl) (by kernel_rfl) ?_
  refine (c_s_MergeRecords w6947 r6932 p6934 c6935 (ho6937.rd M6949 0 (by kernel_rfl)) r6941 p6943 c6944 (ho6946.rd M6949 1 (by kernel_rfl)) hr7078).mono ?_
  rintro e_ w7084 ⟨p7080, c7081, sg7082, rfl, ho7083, K7085⟩
  have M7086 := M6949.call K7085
  refine ⟨_, rfl, ?_⟩
  refine W_run 5 [(0, .slice p6914 x6912.length c6915), (1, .slice p6919 x6917.length c6920), (6, .slice p7080 r7078.1.length c7081), (7, .bool r7078.2)] w7084 (by kernel_rfl) ?_
  refine W_nil ?_
  refine N_then ?_
  refine G_seq ?_
  refine G_region ?_
  refine W_run 1 [(0, .slice p6914 x6912.length c6915), (1, .slice p6919 x6917.length c6920), (6, .slice p7080 r7078.1.length c7081), (7, .bool r7078.2), (35, .slice p6914 x6912.length c6915)] w7084 (by kernel_rfl) ?_
  obtain ⟨r7087, hr7087, hm⟩ := gx_bind hm
  refine W_call 19 #[.slice p6914 x6912.length c6915] (by kernel_rfl) (by kernel_rfl) ?_
  refine (c_l_toEventS w7084 x6912 p6914 c6915 (h6916.mem0 M7086) hr7087).mono ?_
  rintro e_ w7093 ⟨p7089, c7090, sg7091, rfl, ho7092, K7094⟩
  have M7095 := M7086.call K7094
  refine ⟨_, rfl, ?_⟩
  refine W_run 1 [(0, .slice p6914 x6912.length c6915), (1, .slice p6919 x6917.length c6920), (6, .slice p7080 r7078.1.length c7081), (7, .bool r7078.2), (8, .slice p7089 r7087.length c7090)] w7093 (by kernel_rfl) ?_
  refine W_nil ?_
  refine N_then ?_
  refine G_seq ?_
  refine G_region ?_
  refine W_run 1 [(0, .slice p6914 x6912.length c6915), (1, .slice p6919 x6917.length c6920), (6, .slice p7080 r7078.1.length c7081), (7, .bool r7078.2), (8, .slice p7089 r7087.length c7090), (37, .slice p6919 x6917.length c6920)] w7093 (by kernel_rfl) ?_
  obtain ⟨r7096, hr7096, hm⟩ := gx_bind hm
  refine W_call 19 #[.slice p6919 x6917.length c6920] (by kernel_rfl) (by kernel_rfl) ?_
  refine (c_l_toEventS w7093 x6917 p6919 c6920 (h6921.mem0 M7095) hr7096).mono ?_
  rintro e_ w7102 ⟨p7098, c7099, sg7100, rfl, ho7101, K7103⟩
  have M7104 := M7095.call K7103
  refine ⟨_, rfl, ?_⟩
  refine W_run 1 [(0, .slice p6914 x6912.length c6915), (1, .slice p6919 x6917.length c6920), (6, .slice p7080 r7078.1.length c7081), (7, .bool r7078.2), (8, .slice p7089 r7087.length c7090), (9, .slice p7098 r7096.length c7099)] w7102 (by kernel_rfl) ?_
  refine W_nil ?_
  refine N_then ?_
  refine G_seq ?_
  refine G_region ?_
  refine W_run 2 [(0, .slice p6914 x6912.length c6915), (1, .slice p6919 x6917.length c6920), (6, .slice p7080 r7078.1.length c7081), (7, .bool r7078.2), (8, .slice p7089 r7087.length c7090), (9, .slice p7098 r7096.length c7099), (40, .slice p7089 r7087.length c7090), (41, .slice p7098 r7096.length c7099)] w7102 (by kernel_rfl) ?_
  obtain ⟨r7156, hr7156, hm⟩ := gx_bind hm
  refine W_call 35 #[.slice p7089 r7087.length c7090, .slice p7098 r7096.length c7099] (by kernel_rfl) (by kernel_rfl) ?_
  refine (c_i_MergeRecords w7102 r7087 p7089 c7090 (ho7092.rd M7104 3 (by kernel_rfl)) r7096 p7098 c7099 (ho7101.rd M7104 4 (by kernel_rfl)) hr7156).mono ?_
  rintro e_ w7162 ⟨p7158, c7159, sg7160, rfl, ho7161, K7163⟩
  have M7164 := M7104.call K7163
  refine ⟨_, rfl, ?_⟩
  refine W_run 5 [(0, .slice p6914 x6912.length c6915), (1, .slice p6919 x6917.length c6920), (6, .slice p7080 r7078.1.length c7081), (7, .bool r7078.2), (8, .slice p7089 r7087.length c7090), (9, .slice p7098 r7096.length c7099), (10, .slice p7158 r7156.1.length c7159), (11, .bool r7156.2)] w7162 (by kernel_rfl) ?_
  refine W_nil ?_
  refine N_then ?_
  refine G_seq ?_
  refine G_seq ?_
  obtain ⟨o7170, ho7171, hm7172⟩ := gx_bind hm
  refine G_meet (fun a w' => Mem [] w w' [sg7082, sg7091, sg7100, sg7160] ∧ Sat Try.f10.ntmps [(0, .slice p6914 x6912.length c6915), (1, .slice p6919 x6917.length c6920), (6, .slice p7080 r7078.1.length c7081), (7, .bool r7078.2), (8, .slice p7089 r7087.length c7090), (9, .slice p7098 r7096.length c7099), (10, .slice p7158 r7156.1.length c7159), (11, .bool r7156.2), (53, .bool o7170)] a) ?_ ?_
  · have hm := ho7171
    refine G_region ?_
    refine W_run 2 [(0, .slice p6914 x6912.length c6915), (1, .slice p6919 x6917.length c6920), (6, .slice p7080 r7078.1.length c7081), (7, .bool r7078.2), (8, .slice p7089 r7087.length c7090), (9, .slice p7098 r7096.length c7099), (10, .slice p7158 r7156.1.length c7159), (11, .bool r7156.2), (45, .slice p7158 r7156.1.length c7159), (46, .slice p7080 r7078.1.length c7081)] w7162 (by kernel_rfl) ?_
    obtain ⟨r7173, hr7173, hm⟩ := gx_bind hm
    refine W_call 21 #[.slice p7158 r7156.1.length c7159, .slice p7080 r7078.1.length c7081] (by kernel_rfl) (by kernel_rfl) ?_
    refine (c_l_eqEventS w7162 r7156.1 p7158 c7159 (ho7161.rd M7164 5 (by kernel_rfl)) r7078.1 p7080 c7081 (ho7083.rd M7164 2 (by kernel_rfl)) hr7173).mono ?_
    rintro e_ w7174 ⟨rfl, K7175⟩
    have M7176 := M7164.call0 K7175
    refine ⟨_, rfl, ?_⟩
    refine W_run 2 [(0, .slice p6914 x6912.length c6915), (1, .slice p6919 x6917.length c6920), (6, .slice p7080 r7078.1.length c7081), (7, .bool r7078.2), (8, .slice p7089 r7087.length c7090), (9, .slice p7098 r7096.length c7099), (10, .slice p7158 r7156.1.length c7159), (11, .bool r7156.2), (49, .bool (!r7173))] w7174 (by kernel_rfl) ?_
    rcases gx_bif hm with ⟨hc7177, hm⟩ | ⟨hc7177, hm⟩
    · refine W_known 49 true (by kernel_rfl) hc7177 ?_
      refine W_run 4 [(0, .slice p6914 x6912.length c6915), (1, .slice p6919 x6917.length c6920), (6, .slice p7080 r7078.1.length c7081), (7, .bool r7078.2), (8, .slice p7089 r7087.length c7090), (9, .slice p7098 r7096.length c7099), (10, .slice p7158 r7156.1.length c7159), (11, .bool r7156.2), (53, .bool true)] w7174 (by kernel_rfl) ?_
      refine W_nil ?_
      obtain rfl := Option.some.inj hm
      exact N_meet fun a ha => ⟨M7176.pick [2, 3, 4, 5] (by kernel_rfl), ha.sub (by kernel_rfl)⟩
    refine W_known 49 false (by kernel_rfl) hc7177 ?_
    refine W_run 4 [(0, .slice p6914 x6912.length c6915), (1, .slice p6919 x6917.length c6920), (6, .slice p7080 r7078.1.length c7081), (7, .bool r7078.2), (8, .slice p7089 r7087.length c7090), (9, .slice p7098 r7096.length c7099), (10, .slice p7158 r7156.1.length c7159), (11, .bool r7156.2), (53, .bool (!(r7156.2 == r7078.2)))] w7174 (by kernel_rfl) ?_
    refine W_nil ?_
    obtain rfl := Option.some.inj hm
    exact N_meet fun a ha => ⟨M7176.pick [2, 3, 4, 5] (by kernel_rfl), ha.sub (by kernel_rfl)⟩
  intro a7180 w7178 ⟨M7179, hS7181⟩
  refine N_use hS7181 ?_
  have hm := hm7172
  refine N_then ?_
  rcases gx_bif hm with ⟨hc7182, hm⟩ | ⟨hc7182, hm⟩
  · refine G_cond_t (b := o7170) hc7182 (by kernel_rfl) ?_
    refine G_seq ?_
    refine G_region ?_
    refine W_run 1 [(4, .bool false)] w7178 (by kernel_rfl) ?_
    refine W_nil ?_
    refine N_then ?_
    refine G_ret ?_
    refine N_then_ret ?_
    obtain rfl := Option.some.inj hm
    refine N_ret [.bool false] (RVs_cons (RV_tmp (by kernel_rfl)) RVs_nil) ?_
    exact ⟨rfl, M7179.pick [] (by kernel_rfl)⟩
  refine G_cond_f (b := o7170) hc7182 (by kernel_rfl) ?_
  refine G_skip ?_
  refine N_then ?_
  refine G_seq ?_
  refine G_seq ?_
  refine G_region ?_
  refine W_run 2 [(0, .slice p6914 x6912.length c6915), (1, .slice p6919 x6917.length c6920), (6, .slice p7080 r7078.1.length c7081), (7, .bool r7078.2), (8, .slice p7089 r7087.length c7090), (9, .slice p7098 r7096.length c7099), (10, .slice p7158 r7156.1.length c7159), (11, .bool r7156.2), (54, .slice p7089 r7087.length c7090), (55, .slice p6914 x6912.length c6915)] w7178 (by kernel_rfl) ?_
  obtain ⟨r7183, hr7183, hm⟩ := gx_bind hm
  refine W_call 19 #[.slice p6914 x6912.length c6915] (by kernel_rfl) (by kernel_rfl) ?_
  refine (c_l_toEventS w7178 x6912 p6914 c6915 (h6916.mem0 M7179) hr7183).mono ?_
  rintro e_ w7189 ⟨p7185, c7186, sg7187, rfl, ho7188, K7190⟩
  have M7191 := M7179.call K7190
  refine ⟨_, rfl, ?_⟩
  obtain ⟨r7192, hr7192, hm⟩ := gx_bind hm
  refine W_call 21 #[.slice p7089 r7087.length c7090, .slice p7185 r7183.length c7186] (by kernel_rfl) (by kernel_rfl) ?_
  refine (c_l_eqEventS w7189 r7087 p7089 c7090 (ho7092.rd M7191 1 (by kernel_rfl)) r7183 p7185 c7186 (ho7188.rd M7191 4 (by kernel_rfl)) hr7192).mono ?_
  rintro e_ w7193 ⟨rfl, K7194⟩
  have M7195 := M7191.call0 K7194
  refine ⟨_, rfl, ?_⟩
  refine W_run 1 [(0, .slice p6914 x6912.length c6915), (1, .slice p6919 x6917.length c6920), (6, .slice p7080 r7078.1.length c7081), (7, .bool r7078.2), (8, .slice p7089 r7087.length c7090), (9, .slice p7098 r7096.length c7099), (10, .slice p7158 r7156.1.length c7159), (11, .bool r7156.2), (58, .bool (!r7192))] w7193 (by kernel_rfl) ?_
  refine W_nil ?_
  refine N_then ?_
  rcases gx_bif hm with ⟨hc7196, hm⟩ | ⟨hc7196, hm⟩
  · refine G_cond_t (b := (!r7192)) hc7196 (by kernel_rfl) ?_
    refine G_seq ?_
    refine G_region ?_
    refine W_run 1 [(4, .bool false)] w7193 (by kernel_rfl) ?_
    refine W_nil ?_
    refine N_then ?_
    refine G_ret ?_
    refine N_then_ret ?_
    obtain rfl := Option.some.inj hm
    refine N_ret [.bool false] (RVs_cons (RV_tmp (by kernel_rfl)) RVs_nil) ?_
    exact ⟨rfl, M7195.pick [] (by kernel_rfl)⟩
  refine G_cond_f (b := (!r7192)) hc7196 (by kernel_rfl) ?_
  refine G_skip ?_
  refine N_then ?_
  refine G_seq ?_
  refine G_seq ?_
  refine G_region ?_
  refine W_run 2 [(0, .slice p6914 x6912.length c6915), (1, .slice p6919 x6917.length c6920), (6, .slice p7080 r7078.1.length c7081), (7, .bool r7078.2), (8, .slice p7089 r7087.length c7090), (9, .slice p7098 r7096.length c7099), (10, .slice p7158 r7156.1.length c7159), (11, .bool r7156.2), (59, .slice p7098 r7096.length c7099), (60, .slice p6919 x6917.length c6920)] w7193 (by kernel_rfl) ?_
  obtain ⟨r7197, hr7197, hm⟩ := gx_bind hm
  refine W_call 19 #[.slice p6919 x6917.length c6920] (by kernel_rfl) (by kernel_rfl) ?_
  refine (c_l_toEventS w7193 x6917 p6919 c6920 (h6921.mem0 M7195) hr7197).mono ?_
  rintro e_ w7203 ⟨p7199, c7200, sg7201, rfl, ho7202, K7204⟩
  have M7205 := M7195.call K7204
  refine ⟨_, rfl, ?_⟩
  obtain ⟨r7206, hr7206, hm⟩ := gx_bind hm
  refine W_call 21 #[.slice p7098 r7096.length c7099, .slice p7199 r7197.length c7200] (by kernel_rfl) (by kernel_rfl) ?_
  refine (c_l_eqEventS w7203 r7096 p7098 c7099 (ho7101.rd M7205 2 (by kernel_rfl)) r7197 p7199 c7200 (ho7202.rd M7205 5 (by kernel_rfl)) hr7206).mono ?_
  rintro e_ w7207 ⟨rfl, K7208⟩
  have M7209 := M7205.call0 K7208
  refine ⟨_, rfl, ?_⟩
  refine W_run 1 [(0, .slice p6914 x6912.length c6915), (1, .slice p6919 x6917.length c6920), (6, .slice p7080 r7078.1.length c7081), (7, .bool r7078.2), (8, .slice p7089 r7087.length c7090), (9, .slice p7098 r7096.length c7099), (10, .slice p7158 r7156.1.length c7159), (11, .bool r7156.2), (63, .bool (!r7206))] w7207 (by kernel_rfl) ?_
  refine W_nil ?_
  refine N_then ?_
  rcases gx_bif hm with ⟨hc7210, hm⟩ | ⟨hc7210, hm⟩
  · refine G_cond_t (b := (!r7206)) hc7210 (by kernel_rfl) ?_
    refine G_seq ?_
    refine G_region ?_
    refine W_run 1 [(4, .bool false)] w7207 (by kernel_rfl) ?_
    refine W_nil ?_
    refine N_then ?_
    refine G_ret ?_
    refine N_then_ret ?_
    obtain rfl := Option.some.inj hm
    refine N_ret [.bool false] (RVs_cons (RV_tmp (by kernel_rfl)) RVs_nil) ?_
    exact ⟨rfl, M7209.pick [] (by kernel_rfl)⟩
  refine G_cond_f (b := (!r7206)) hc7210 (by kernel_rfl) ?_
  refine G_skip ?_
  refine N_then ?_
  refine G_seq ?_
  refine G_region ?_
  refine W_run 1 [(0, .slice p6914 x6912.length c6915), (1, .slice p6919 x6917.length c6920), (6, .slice p7080 r7078.1.length c7081), (7, .bool r7078.2), (8, .slice p7089 r7087.length c7090), (9, .slice p7098 r7096.length c7099), (10, .slice p7158 r7156.1.length c7159), (11, .bool r7156.2), (12, .int .i64 1)] w7207 (by kernel_rfl) ?_
  refine W_nil ?_
  refine N_then ?_
  refine G_seq ?_
  refine G_region ?_
  refine W_run 2 [(0, .slice p6914 x6912.length c6915), (1, .slice p6919 x6917.length c6920), (6, .slice p7080 r7078.1.length c7081), (7, .bool r7078.2), (9, .slice p7098 r7096.length c7099), (10, .slice p7158 r7156.1.length c7159), (11, .bool r7156.2), (12, .int .i64 1), (64, .slice p7089 r7087.length c7090), (65, .int .i64 1)] w7207 (by kernel_rfl) ?_
  obtain ⟨r7211, hr7211, hm⟩ := gx_bind hm
  refine W_call 28 #[.slice p7089 r7087.length c7090, .int .i64 1] (by kernel_rfl) (by kernel_rfl) ?_
  refine (c_l_markEventS w7207 r7087 p7089 c7090 sg7091 ho7092 1 (M7209.hasPick [1]) (M7209.nodupPick [1] (by kernel_rfl)) hr7211).mono ?_
  rintro e_ w7215 ⟨sg7212, rfl, ho7213, hl7214, K7216⟩
  have M7217 := M7209.callF' [1] [0, 2, 3, 4, 5] (by kernel_rfl) K7216
  refine ⟨_, rfl, ?_⟩
  refine W_conv 64 (.slice p7089 r7087.length c7090) (.slice p7089 r7211.2.length c7090) (by kernel_rfl) (by first | rw [hl7214] | rw [hl7214]) ?_
  refine W_run 1 [(0, .slice p6914 x6912.length c6915), (1, .slice p6919 x6917.length c6920), (6, .slice p7080 r7078.1.length c7081), (7, .bool r7078.2), (9, .slice p7098 r7096.length c7099), (10, .slice p7158 r7156.1.length c7159), (11, .bool r7156.2), (12, .int .i64 r7211.1)] w7215 (by kernel_rfl) ?_
  refine W_nil ?_
  refine N_then ?_
  refine G_seq ?_
  refine G_region ?_
  refine W_run 2 [(0, .slice p6914 x6912.length c6915), (1, .slice p6919 x6917.length c6920), (6, .slice p7080 r7078.1.length c7081), (7, .bool r7078.2), (10, .slice p7158 r7156.1.length c7159), (11, .bool r7156.2), (12, .int .i64 r7211.1), (67, .slice p7098 r7096.length c7099), (68, .int .i64 r7211.1)] w7215 (by kernel_rfl) ?_
  obtain ⟨r7218, hr7218, hm⟩ := gx_bind hm
  refine W_call 28 #[.slice p7098 r7096.length c7099, .int .i64 r7211.1] (by kernel_rfl) (by kernel_rfl) ?_
  refine (c_l_markEventS w7215 r7096 p7098 c7099 sg7100 ho7101 r7211.1 (M7217.hasPick [1]) (M7217.nodupPick [1] (by kernel_rfl)) hr7218).mono ?_
  rintro e_ w7222 ⟨sg7219, rfl, ho7220, hl7221, K7223⟩
  have M7224 := M7217.callF' [1] [0, 2, 3, 4, 5] (by kernel_rfl) K7223
  refine ⟨_, rfl, ?_⟩
  refine W_conv 67 (.slice p7098 r7096.length c7099) (.slice p7098 r7218.2.length c7099) (by kernel_rfl) (by first | rw [hl7221] | rw [hl7221]) ?_
  refine W_run 1 [(0, .slice p6914 x6912.length c6915), (1, .slice p6919 x6917.length c6920), (6, .slice p7080 r7078.1.length c7081), (7, .bool r7078.2), (10, .slice p7158 r7156.1.length c7159), (11, .bool r7156.2), (12, .int .i64 r7218.1)] w7222 (by kernel_rfl) ?_
  refine W_nil ?_
  refine N_then ?_
  refine G_seq ?_
  refine G_seq ?_
  obtain ⟨o7231, ho7232, hm7233⟩ := gx_bind hm
  refine G_meet (fun a w' => Mem [] w w' [sg7082, sg7160] ∧ Sat Try.f10.ntmps [(0, .slice p6914 x6912.length c6915), (1, .slice p6919 x6917.length c6920), (6, .slice p7080 r7078.1.length c7081), (7, .bool r7078.2), (10, .slice p7158 r7156.1.length c7159), (82, .bool o7231)] a) ?_ ?_
  · have hm := ho7232
    refine G_region ?_
    refine W_run 3 [(0, .slice p6914 x6912.length c6915), (1, .slice p6919 x6917.length c6920), (6, .slice p7080 r7078.1.length c7081), (7, .bool r7078.2), (10, .slice p7158 r7156.1.length c7159), (11, .bool r7156.2), (72, .bool (decide (r7218.1 < 0)))] w7222 (by kernel_rfl) ?_
    rcases gx_bif hm with ⟨hc7234, hm⟩ | ⟨hc7234, hm⟩
    · refine W_known 72 true (by kernel_rfl) hc7234 ?_
      refine W_run 10 [(0, .slice p6914 x6912.length c6915), (1, .slice p6919 x6917.length c6920), (6, .slice p7080 r7078.1.length c7081), (7, .bool r7078.2), (10, .slice p7158 r7156.1.length c7159), (82, .bool true)] w7222 (by kernel_rfl) ?_
      refine W_nil ?_
      obtain rfl := Option.some.inj hm
      exact N_meet fun a ha => ⟨M7224.pick [0, 1] (by kernel_rfl), ha.sub (by kernel_rfl)⟩
    refine W_known 72 false (by kernel_rfl) hc7234 ?_
    refine W_run 2 [(0, .slice p6914 x6912.length c6915), (1, .slice p6919 x6917.length c6920), (6, .slice p7080 r7078.1.length c7081), (7, .bool r7078.2), (10, .slice p7158 r7156.1.length c7159), (11, .bool r7156.2), (72, .bool false), (73, .slice p7158 r7156.1.length c7159), (74, .slice p7080 r7078.1.length c7081)] w7222 (by kernel_rfl) ?_
    obtain ⟨r7235, hr7235, hm⟩ := gx_bind hm
    refine W_call 21 #[.slice p7158 r7156.1.length c7159, .slice p7080 r7078.1.length c7081] (by kernel_rfl) (by kernel_rfl) ?_
    refine (c_l_eqEventS w7222 r7156.1 p7158 c7159 (ho7161.rd M7224 1 (by kernel_rfl)) r7078.1 p7080 c7081 (ho7083.rd M7224 0 (by kernel_rfl)) hr7235).mono ?_
    rintro e_ w7236 ⟨rfl, K7237⟩
    have M7238 := M7224.call0 K7237
    refine ⟨_, rfl, ?_⟩
    refine W_run 3 [(0, .slice p6914 x6912.length c6915), (1, .slice p6919 x6917.length c6920), (6, .slice p7080 r7078.1.length c7081), (7, .bool r7078.2), (10, .slice p7158 r7156.1.length c7159), (11, .bool r7156.2), (78, .bool (!r7235))] w7236 (by kernel_rfl) ?_
    rcases gx_bif hm with ⟨hc7239, hm⟩ | ⟨hc7239, hm⟩
    · refine W_known 78 true (by kernel_rfl) hc7239 ?_
      refine W_run 4 [(0, .slice p6914 x6912.length c6915), (1, .slice p6919 x6917.length c6920), (6, .slice p7080 r7078.1.length c7081), (7, .bool r7078.2), (10, .slice p7158 r7156.1.length c7159), (82, .bool true)] w7236 (by kernel_rfl) ?_
      refine W_nil ?_
      obtain rfl := Option.some.inj hm
      exact N_meet fun a ha => ⟨M7238.pick [0, 1] (by kernel_rfl), ha.sub (by kernel_rfl)⟩
    refine W_known 78 false (by kernel_rfl) hc7239 ?_
    refine W_run 4 [(0, .slice p6914 x6912.length c6915), (1, .slice p6919 x6917.length c6920), (6, .slice p7080 r7078.1.length c7081), (7, .bool r7078.2), (10, .slice p7158 r7156.1.length c7159), (82, .bool (!(r7156.2 == r7078.2)))] w7236 (by kernel_rfl) ?_
    refine W_nil ?_
    obtain rfl := Option.some.inj hm
    exact N_meet fun a ha => ⟨M7238.pick [0, 1] (by kernel_rfl), ha.sub (by kernel_rfl)⟩
  intro a7242 w7240 ⟨M7241, hS7243⟩
  refine N_use hS7243 ?_
  have hm := hm7233
  refine N_then ?_
  rcases gx_bif hm with ⟨hc7244, hm⟩ | ⟨hc7244, hm⟩
  · refine G_cond_t (b := o7231) hc7244 (by kernel_rfl) ?_
    refine G_seq ?_
    refine G_region ?_
    refine W_run 1 [(4, .bool false)] w7240 (by kernel_rfl) ?_
    refine W_nil ?_
    refine N_then ?_
    refine G_ret ?_
    refine N_then_ret ?_
    obtain rfl := Option.some.inj hm
    refine N_ret [.bool false] (RVs_cons (RV_tmp (by kernel_rfl)) RVs_nil) ?_
    exact ⟨rfl, M7241.pick [] (by kernel_rfl)⟩
  refine G_cond_f (b := o7231) hc7244 (by kernel_rfl) ?_
  refine G_skip ?_
  refine N_then ?_
  refine G_seq ?_
  refine G_region ?_
  refine W_run 1 [(0, .slice p6914 x6912.length c6915), (1, .slice p6919 x6917.length c6920), (6, .slice p7080 r7078.1.length c7081), (7, .bool r7078.2), (10, .slice p7158 r7156.1.length c7159), (13, .int .i64 1)] w7240 (by kernel_rfl) ?_
  refine W_nil ?_
  refine N_then ?_
  refine G_seq ?_
  refine G_region ?_
  refine W_run 2 [(0, .slice p6914 x6912.length c6915), (1, .slice p6919 x6917.length c6920), (6, .slice p7080 r7078.1.length c7081), (7, .bool r7078.2), (10, .slice p7158 r7156.1.length c7159), (13, .int .i64 1), (83, .slice p7158 r7156.1.length c7159), (84, .int .i64 1)] w7240 (by kernel_rfl) ?_
  obtain ⟨r7245, hr7245, hm⟩ := gx_bind hm
  refine W_call 28 #[.slice p7158 r7156.1.length c7159, .int .i64 1] (by kernel_rfl) (by kernel_rfl) ?_
  refine (c_l_markEventS w7240 r7156.1 p7158 c7159 sg7160 ho7161 1 (M7241.hasPick [1]) (M7241.nodupPick [1] (by kernel_rfl)) hr7245).mono ?_
  rintro e_ w7249 ⟨sg7246, rfl, ho7247, hl7248, K7250⟩
  have M7251 := M7241.callF' [1] [0] (by kernel_rfl) K7250
  refine ⟨_, rfl, ?_⟩
  refine W_conv 10 (.slice p7158 r7156.1.length c7159) (.slice p7158 r7245.2.length c7159) (by kernel_rfl) (by first | rw [hl7248] | rw [hl7248]) ?_
  refine W_conv 83 (.slice p7158 r7156.1.length c7159) (.slice p7158 r7245.2.length c7159) (by kernel_rfl) (by first | rw [hl7248] | rw [hl7248]) ?_
  refine W_run 1 [(0, .slice p6914 x6912.length c6915), (1, .slice p6919 x6917.length c6920), (6, .slice p7080 r7078.1.length c7081), (7, .bool r7078.2), (10, .slice p7158 r7245.2.length c7159), (13, .int .i64 r7245.1)] w7249 (by kernel_rfl) ?_
  refine W_nil ?_
  refine N_then ?_
  refine G_seq ?_
  refine G_region ?_
  refine W_run 1 [(0, .slice p6914 x6912.length c6915), (1, .slice p6919 x6917.length c6920), (6, .slice p7080 r7078.1.length c7081), (7, .bool r7078.2), (10, .slice p7158 r7245.2.length c7159), (13, .int .i64 r7245.1), (14, .int .i64 1)] w7249 (by kernel_rfl) ?_
  refine W_nil ?_
  refine N_then ?_
  refine G_seq ?_
  refine G_region ?_
  refine W_run 2 [(0, .slice p6914 x6912.length c6915), (1, .slice p6919 x6917.length c6920), (6, .slice p7080 r7078.1.length c7081), (7, .bool r7078.2), (10, .slice p7158 r7245.2.length c7159), (13, .int .i64 r7245.1), (14, .int .i64 1), (86, .slice p7158 r7245.2.length c7159), (87, .int .i64 1)] w7249 (by kernel_rfl) ?_
  obtain ⟨r7252, hr7252, hm⟩ := gx_bind hm
  refine W_call 29 #[.slice p7158 r7245.2.length c7159, .int .i64 1] (by kernel_rfl) (by kernel_rfl) ?_
  refine (c_l_heldEventS w7249 r7245.2 p7158 c7159 (ho7247.rd M7251 1 (by kernel_rfl)) 1 hr7252).mono ?_
  rintro e_ w7253 ⟨rfl, K7254⟩
  have M7255 := M7251.call0 K7254
  refine ⟨_, rfl, ?_⟩
  refine W_run 1 [(0, .slice p6914 x6912.length c6915), (1, .slice p6919 x6917.length c6920), (6, .slice p7080 r7078.1.length c7081), (7, .bool r7078.2), (10, .slice p7158 r7245.2.length c7159), (13, .int .i64 r7245.1), (14, .int .i64 r7252)] w7253 (by kernel_rfl) ?_
  refine W_nil ?_
  refine N_then ?_
  refine G_seq ?_
  refine G_seq ?_
  refine G_region ?_
  refine W_run 2 [(0, .slice p6914 x6912.length c6915), (1, .slice p6919 x6917.length c6920), (6, .slice p7080 r7078.1.length c7081), (7, .bool r7078.2), (10, .slice p7158 r7245.2.length c7159), (13, .int .i64 r7245.1), (14, .int .i64 r7252), (90, .bool (decide (r7252 < 0)))] w7253 (by kernel_rfl) ?_
  refine W_nil ?_
  refine N_then ?_
  rcases gx_bif hm with ⟨hc7256, hm⟩ | ⟨hc7256, hm⟩
  · refine G_cond_t (b := (decide (r7252 < 0))) hc7256 (by kernel_rfl) ?_
    refine G_seq ?_
    refine G_region ?_
    refine W_run 1 [(4, .bool false)] w7253 (by kernel_rfl) ?_
    refine W_nil ?_
    refine N_then ?_
    refine G_ret ?_
    refine N_then_ret ?_
    obtain rfl := Option.some.inj hm
    refine N_ret [.bool false] (RVs_cons (RV_tmp (by kernel_rfl)) RVs_nil) ?_
    exact ⟨rfl, M7255.pick [] (by kernel_rfl)⟩
  refine G_cond_f (b := (decide (r7252 < 0))) hc7256 (by kernel_rfl) ?_
  refine G_skip ?_
  refine N_then ?_
  refine G_seq ?_
  refine G_seq ?_
  refine G_region ?_
  refine W_run 3 [(0, .slice p6914 x6912.length c6915), (1, .slice p6919 x6917.length c6920), (6, .slice p7080 r7078.1.length c7081), (7, .bool r7078.2), (10, .slice p7158 r7245.2.length c7159), (13, .int .i64 r7245.1), (93, .bool (r7252 != r7245.1))] w7253 (by kernel_rfl) ?_
  refine W_nil ?_
  refine N_then ?_
  rcases gx_bif hm with ⟨hc7257, hm⟩ | ⟨hc7257, hm⟩
  · refine G_cond_t (b := (r7252 != r7245.1)) hc7257 (by kernel_rfl) ?_
    refine G_seq ?_
    refine G_region ?_
    refine W_run 1 [(4, .bool false)] w7253 (by kernel_rfl) ?_
    refine W_nil ?_
    refine N_then ?_
    refine G_ret ?_
    refine N_then_ret ?_
    obtain rfl := Option.some.inj hm
    refine N_ret [.bool false] (RVs_cons (RV_tmp (by kernel_rfl)) RVs_nil) ?_
    exact ⟨rfl, M7255.pick [] (by kernel_rfl)⟩
  refine G_cond_f (b := (r7252 != r7245.1)) hc7257 (by kernel_rfl) ?_
  refine G_skip ?_
  refine N_then ?_
  refine G_seq ?_
  refine G_region ?_
  refine W_run 1 [(1, .slice p6919 x6917.length c6920), (6, .slice p7080 r7078.1.length c7081), (7, .bool r7078.2), (10, .slice p7158 r7245.2.length c7159), (13, .int .i64 r7245.1), (95, .slice p6914 x6912.length c6915)] w7253 (by kernel_rfl) ?_
  obtain ⟨r7258, hr7258, hm⟩ := gx_bind hm
  refine W_call 19 #[.slice p6914 x6912.length c6915] (by kernel_rfl) (by kernel_rfl) ?_
  refine (c_l_toEventS w7253 x6912 p6914 c6915 (h6916.mem0 M7255) hr7258).mono ?_
  rintro e_ w7264 ⟨p7260, c7261, sg7262, rfl, ho7263, K7265⟩
  have M7266 := M7255.call K7265
  refine ⟨_, rfl, ?_⟩
  refine W_run 1 [(6, .slice p7080 r7078.1.length c7081), (7, .bool r7078.2), (10, .slice p7158 r7245.2.length c7159), (13, .int .i64 r7245.1), (96, .slice p7260 r7258.length c7261), (97, .slice p6919 x6917.length c6920)] w7264 (by kernel_rfl) ?_
  obtain ⟨r7267, hr7267, hm⟩ := gx_bind hm
  refine W_call 19 #[.slice p6919 x6917.length c6920] (by kernel_rfl) (by kernel_rfl) ?_
  refine (c_l_toEventS w7264 x6917 p6919 c6920 (h6921.mem0 M7266) hr7267).mono ?_
  rintro e_ w7273 ⟨p7269, c7270, sg7271, rfl, ho7272, K7274⟩
  have M7275 := M7266.call K7274
  refine ⟨_, rfl, ?_⟩
  obtain ⟨r7276, hr7276, hm⟩ := gx_bind hm
  refine W_call 35 #[.slice p7260 r7258.length c7261, .slice p7269 r7267.length c7270] (by kernel_rfl) (by kernel_rfl) ?_
  refine (c_i_MergeRecords w7273 r7258 p7260 c7261 (ho7263.rd M7275 2 (by kernel_rfl)) r7267 p7269 c7270 (ho7272.rd M7275 3 (by kernel_rfl)) hr7276).mono ?_
  rintro e_ w7282 ⟨p7278, c7279, sg7280, rfl, ho7281, K7283⟩
  have M7284 := M7275.call K7283
  refine ⟨_, rfl, ?_⟩
  refine W_run 5 [(6, .slice p7080 r7078.1.length c7081), (7, .bool r7078.2), (10, .slice p7158 r7245.2.length c7159), (13, .int .i64 r7245.1), (15, .slice p7278 r7276.1.length c7279), (16, .bool r7276.2)] w7282 (by kernel_rfl) ?_
  refine W_nil ?_
  refine N_then ?_
  refine G_seq ?_
  refine G_seq ?_
  obtain ⟨o7290, ho7291, hm7292⟩ := gx_bind hm
  refine G_meet (fun a w' => Mem [] w w' [sg7246] ∧ Sat Try.f10.ntmps [(10, .slice p7158 r7245.2.length c7159), (13, .int .i64 r7245.1), (110, .bool o7290)] a) ?_ ?_
  · have hm := ho7291
    refine G_region ?_
    refine W_run 2 [(7, .bool r7078.2), (10, .slice p7158 r7245.2.length c7159), (13, .int .i64 r7245.1), (16, .bool r7276.2), (102, .slice p7278 r7276.1.length c7279), (103, .slice p7080 r7078.1.length c7081)] w7282 (by kernel_rfl) ?_
    obtain ⟨r7293, hr7293, hm⟩ := gx_bind hm
    refine W_call 21 #[.slice p7278 r7276.1.length c7279, .slice p7080 r7078.1.length c7081] (by kernel_rfl) (by kernel_rfl) ?_
    refine (c_l_eqEventS w7282 r7276.1 p7278 c7279 (ho7281.rd M7284 4 (by kernel_rfl)) r7078.1 p7080 c7081 (ho7083.rd M7284 0 (by kernel_rfl)) hr7293).mono ?_
    rintro e_ w7294 ⟨rfl, K7295⟩
    have M7296 := M7284.call0 K7295
    refine ⟨_, rfl, ?_⟩
    refine W_run 2 [(7, .bool r7078.2), (10, .slice p7158 r7245.2.length c7159), (13, .int .i64 r7245.1), (16, .bool r7276.2), (106, .bool (!r7293))] w7294 (by kernel_rfl) ?_
    rcases gx_bif hm with ⟨hc7297, hm⟩ | ⟨hc7297, hm⟩
    · refine W_known 106 true (by kernel_rfl) hc7297 ?_
      refine W_run 4 [(10, .slice p7158 r7245.2.length c7159), (13, .int .i64 r7245.1), (110, .bool true)] w7294 (by kernel_rfl) ?_
      refine W_nil ?_
      obtain rfl := Option.some.inj hm
      exact N_meet fun a ha => ⟨M7296.pick [1] (by kernel_rfl), ha.sub (by kernel_rfl)⟩
    refine W_known 106 false (by kernel_rfl) hc7297 ?_
    refine W_run 4 [(10, .slice p7158 r7245.2.length c7159), (13, .int .i64 r7245.1), (110, .bool (!(r7276.2 == r7078.2)))] w7294 (by kernel_rfl) ?_
    refine W_nil ?_
    obtain rfl := Option.some.inj hm
    exact N_meet fun a ha => ⟨M7296.pick [1] (by kernel_rfl), ha.sub (by kernel_rfl)⟩
  intro a7300 w7298 ⟨M7299, hS7301⟩
  refine N_use hS7301 ?_
  have hm := hm7292
  refine N_then ?_
  rcases gx_bif hm with ⟨hc7302, hm⟩ | ⟨hc7302, hm⟩
  · refine G_cond_t (b := o7290) hc7302 (by kernel_rfl) ?_
    refine G_seq ?_
    refine G_region ?_
    refine W_run 1 [(4, .bool false)] w7298 (by kernel_rfl) ?_
    refine W_nil ?_
    refine N_then ?_
    refine G_ret ?_
    refine N_then_ret ?_
    obtain rfl := Option.some.inj hm
    refine N_ret [.bool false] (RVs_cons (RV_tmp (by kernel_rfl)) RVs_nil) ?_
    exact ⟨rfl, M7299.pick [] (by kernel_rfl)⟩
  refine G_cond_f (b := o7290) hc7302 (by kernel_rfl) ?_
  refine G_skip ?_
  refine N_then ?_
  refine G_seq ?_
  refine G_region ?_
  refine W_run 1 [(10, .slice p7158 r7245.2.length c7159), (13, .int .i64 r7245.1), (14, .int .i64 1)] w7298 (by kernel_rfl) ?_
  refine W_nil ?_
  refine N_then ?_
  refine G_seq ?_
  refine G_region ?_
  refine W_run 2 [(13, .int .i64 r7245.1), (14, .int .i64 1), (111, .slice p7158 r7245.2.length c7159), (112, .int .i64 1)] w7298 (by kernel_rfl) ?_
  obtain ⟨r7303, hr7303, hm⟩ := gx_bind hm
  refine W_call 29 #[.slice p7158 r7245.2.length c7159, .int .i64 1] (by kernel_rfl) (by kernel_rfl) ?_
  refine (c_l_heldEventS w7298 r7245.2 p7158 c7159 (ho7247.rd M7299 0 (by kernel_rfl)) 1 hr7303).mono ?_
  rintro e_ w7304 ⟨rfl, K7305⟩
  have M7306 := M7299.call0 K7305
  refine ⟨_, rfl, ?_⟩
  refine W_run 1 [(13, .int .i64 r7245.1), (14, .int .i64 r7303)] w7304 (by kernel_rfl) ?_
  refine W_nil ?_
  refine N_then ?_
  refine G_seq ?_
  refine G_seq ?_
  refine G_region ?_
  refine W_run 2 [(13, .int .i64 r7245.1), (14, .int .i64 r7303), (115, .bool (decide (r7303 < 0)))] w7304 (by kernel_rfl) ?_
  refine W_nil ?_
  refine N_then ?_
  rcases gx_bif hm with ⟨hc7307, hm⟩ | ⟨hc7307, hm⟩
  · refine G_cond_t (b := (decide (r7303 < 0))) hc7307 (by kernel_rfl) ?_
    refine G_seq ?_
    refine G_region ?_
    refine W_run 1 [(4, .bool false)] w7304 (by kernel_rfl) ?_
    refine W_nil ?_
    refine N_then ?_
    refine G_ret ?_
    refine N_then_ret ?_
    obtain rfl := Option.some.inj hm
    refine N_ret [.bool false] (RVs_cons (RV_tmp (by kernel_rfl)) RVs_nil) ?_
    exact ⟨rfl, M7306.pick [] (by kernel_rfl)⟩
  refine G_cond_f (b := (decide (r7303 < 0))) hc7307 (by kernel_rfl) ?_
  refine G_skip ?_
  refine N_then ?_
  refine G_seq ?_
  refine G_seq ?_
  refine G_region ?_
  refine W_run 3 [(118, .bool (r7303 != r7245.1))] w7304 (by kernel_rfl) ?_
  refine W_nil ?_
  refine N_then ?_
  rcases gx_bif hm with ⟨hc7308, hm⟩ | ⟨hc7308, hm⟩
  · refine G_cond_t (b := (r7303 != r7245.1)) hc7308 (by kernel_rfl) ?_
    refine G_seq ?_
    refine G_region ?_
    refine W_run 1 [(4, .bool false)] w7304 (by kernel_rfl) ?_
    refine W_nil ?_
    refine N_then ?_
    refine G_ret ?_
    refine N_then_ret ?_
    obtain rfl := Option.some.inj hm
    refine N_ret [.bool false] (RVs_cons (RV_tmp (by kernel_rfl)) RVs_nil) ?_
    exact ⟨rfl, M7306.pick [] (by kernel_rfl)⟩
  refine G_cond_f (b := (r7303 != r7245.1)) hc7308 (by kernel_rfl) ?_
  refine G_skip ?_
  refine N_then ?_
  refine G_seq ?_
  refine G_region ?_
  refine W_run 1 [(4, .bool true)] w7304 (by kernel_rfl) ?_
  refine W_nil ?_
  refine N_then ?_
  refine G_ret ?_
  obtain rfl := Option.some.inj hm
  refine N_ret [.bool true] (RVs_cons (RV_tmp (by kernel_rfl)) RVs_nil) ?_
  exact ⟨rfl, M7306.pick [] (by kernel_rfl)⟩
theorem c_s_CountKinds (w : World) (x7328 : List Event) (p7330 : Option Addr) (c7331 : Nat) (h7332 : rdS encEvent w x7328 p7330 c7331) {r : (List ByteArray) × (List Int) × Bool} (hm : M.s_CountKinds x7328 = some r) :
    Calls Try.prog 36 #[.slice p7330 x7328.length c7331] w fun e w' => ∃ (p7334 : Option Addr) (c7335 : Nat) (sg7336 : Seg), ∃ (p7338 : Option Addr) (c7339 : Nat) (sg7340 : Seg), e = .returned (.tuple #[.slice p7334 r.1.length c7335, .slice p7338 r.2.1.length c7339, .bool r.2.2]) ∧ ownS Gx.encS r.1 p7334 c7335 sg7336 ∧ ownS Gx.encI r.2.1 p7338 c7339 sg7340 ∧ Mem [] w w' [sg7336, sg7340] := by
  unfold M.s_CountKinds at hm
  refine C_enter Try.func36 rfl (by kernel_rfl) ?_
  have M0 := Mem.refl [] w
  refine G_seq ?_
  refine G_region ?_
  refine W_run 3 [(0, .slice p7330 x7328.length c7331)] w (by kernel_rfl) ?_
  refine W_nil ?_
  refine N_then ?_
  refine G_seq ?_
  refine G_region ?_
  refine W_lit (E := Gx.encS) ([] : List ByteArray) 0 [] 9 M0 (by kernel_rfl) (by kernel_rfl) (by kernel_rfl) (by kernel_rfl) (by kernel_rfl) ?_
  intro p7343 c7344 sg7345 w7346 ho7347 M7348
  refine W_lit (E := Gx.encI) ([] : List Int) 0 [] 3 M7348 (by kernel_rfl) (by kernel_rfl) (by kernel_rfl) (by kernel_rfl) (by kernel_rfl) ?_
  intro p7350 c7351 sg7352 w7353 ho7354 M7355
  refine W_run 2 [(0, .slice p7330 x7328.length c7331), (5, .slice p7343 ([] : List ByteArray).length c7344), (6, .slice p7350 ([] : List Int).length c7351)] w7353 (by kernel_rfl) ?_
  refine W_nil ?_
  refine N_then ?_
  refine G_seq ?_
  refine G_seq ?_
  refine G_region ?_
  refine W_run 1 [(0, .slice p7330 x7328.length c7331), (5, .slice p7343 ([] : List ByteArray).length c7344), (6, .slice p7350 ([] : List Int).length c7351), (11, .slice p7330 x7328.length c7331)] w7353 (by kernel_rfl) ?_
  obtain ⟨r7357, hr7357, hm⟩ := gx_bind hm
  refine W_call 56 #[.slice p7330 x7328.length c7331] (by kernel_rfl) (by kernel_rfl) ?_
  refine (c_s_l22Good w7353 x7328 p7330 c7331 (h7332.mem0 M7355) hr7357).mono ?_
  rintro e_ w7358 ⟨rfl, K7359⟩
  have M7360 := M7355.call0 K7359
  refine ⟨_, rfl, ?_⟩
  refine W_run 1 [(0, .slice p7330 x7328.length c7331), (5, .slice p7343 ([] : List ByteArray).length c7344), (6, .slice p7350 ([] : List Int).length c7351), (13, .bool (!r7357))] w7358 (by kernel_rfl) ?_
  refine W_nil ?_
  refine N_then ?_
  rcases gx_bif hm with ⟨hc7361, hm⟩ | ⟨hc7361, hm⟩
  · refine G_cond_t (b := (!r7357)) hc7361 (by kernel_rfl) ?_
    refine G_seq ?_
    refine G_region ?_
    refine W_run 5 [(2, .slice p7343 ([] : List ByteArray).length c7344), (3, .slice p7350 ([] : List Int).length c7351), (4, .bool false)] w7358 (by kernel_rfl) ?_
    refine W_nil ?_
    refine N_then ?_
    refine G_ret ?_
    refine N_then_ret ?_
    obtain rfl := Option.some.inj hm
    refine N_ret [.slice p7343 ([] : List ByteArray).length c7344, .slice p7350 ([] : List Int).length c7351, .bool false] (RVs_cons (RV_tmp (by kernel_rfl)) (RVs_cons (RV_tmp (by kernel_rfl)) (RVs_cons (RV_tmp (by kernel_rfl)) RVs_nil))) ?_
    exact ⟨p7343, c7344, sg7345, p7350, c7351, sg7352, rfl, ho7347, ho7354, M7360.pick [0, 1] (by kernel_rfl)⟩
  refine G_cond_f (b := (!r7357)) hc7361 (by kernel_rfl) ?_
  refine G_skip ?_
  refine N_then ?_
  refine G_seq ?_
  refine G_seq ?_
  refine G_region ?_
  refine W_run 1 [(0, .slice p7330 x7328.length c7331), (5, .slice p7343 ([] : List ByteArray).length c7344), (6, .slice p7350 ([] : List Int).length c7351), (7, .int .i64 0)] w7358 (by kernel_rfl) ?_
  refine W_nil ?_
  refine N_then ?_
  obtain ⟨out8573, hw8574, hmo8575⟩ := gx_bind hm
  refine G_meet (fun a w' => ∃ (p8589 : Option Addr), ∃ (c8590 : Nat), ∃ (sg8591 : Seg), ∃ (p8594 : Option Addr), ∃ (c8595 : Nat), ∃ (sg8596 : Seg), ∃ (sg8599 : Seg), ownS Gx.encS out8573.1 p8589 c8590 sg8591 ∧ ownS Gx.encI out8573.2.1 p8594 c8595 sg8596 ∧ ownS Gx.encI out8573.2.2 p7350 c7351 sg8599 ∧ Mem [] w w' [sg8591, sg8596] ∧ Sat Try.f36.ntmps [(5, .slice p8589 out8573.1.length c8590), (6, .slice p8594 out8573.2.1.length c8595)] a) ?_ ?_
  · refine G_block ?_
    refine G_while (σ := List ByteArray × List Int × Int × List Int) (ρ := List ByteArray × List Int × List Int) (fun s8566 a w' => ∃ (p8576 : Option Addr), ∃ (c8577 : Nat), ∃ (sg8578 : Seg), ∃ (p8581 : Option Addr), ∃ (c8582 : Nat), ∃ (sg8583 : Seg), ∃ (sg8586 : Seg), ownS Gx.encS s8566.1 p8576 c8577 sg8578 ∧ ownS Gx.encI s8566.2.1 p8581 c8582 sg8583 ∧ ownS Gx.encI s8566.2.2.2 p7350 c7351 sg8586 ∧ Mem [] w w' [sg8578, sg8583] ∧ Sat Try.f36.ntmps [(0, .slice p7330 x7328.length c7331), (5, .slice p8576 s8566.1.length c8577), (6, .slice p8581 s8566.2.1.length c8582), (7, .int .i64 s8566.2.2.1)] a) hw8574 (fun a ha => ⟨p7343, c7344, sg7345, p7350, c7351, sg7352, sg7352, ho7347, ho7354, ho7354, M7360.pick [0, 1] (by kernel_rfl), ha.sub (by kernel_rfl)⟩) ?_
    clear hm
    intro s8566 x8567 hm hout8568 a8569 w8570 ⟨p8576, c8577, sg8578, p8581, c8582, sg8583, sg8586, ho8579, ho8584, ho8587, M8571, hS8572⟩
    refine G_use hS8572 ?_
    refine G_seq ?_
    refine G_seq ?_
    refine G_region ?_
    refine W_run 4 [(0, .slice p7330 x7328.length c7331), (5, .slice p8576 s8566.1.length c8577), (6, .slice p8581 s8566.2.1.length c8582), (7, .int .i64 s8566.2.2.1), (19, .bool (decide (s8566.2.2.1 < (x7328.length : Int))))] w8570 (by kernel_rfl) ?_
    refine W_nil ?_
    refine N_then ?_
    rcases gx_bif hm with ⟨hc8601, hm⟩ | ⟨hc8601, hm⟩
    · refine G_cond_t (b := (decide (s8566.2.2.1 < (x7328.length : Int)))) hc8601 (by kernel_rfl) ?_
      refine G_skip ?_
      refine N_then ?_
      refine G_seq ?_
      obtain ⟨o8890, ho8891, hm8892⟩ := gx_bind hm
      refine G_meet (fun a w' => ∃ (p8893 : Option Addr), ∃ (c8894 : Nat), ∃ (sg8895 : Seg), ∃ (p8898 : Option Addr), ∃ (c8899 : Nat), ∃ (sg8900 : Seg), ∃ (sg8903 : Seg), ownS Gx.encS o8890.1 p8893 c8894 sg8895 ∧ ownS Gx.encI o8890.2.1 p8898 c8899 sg8900 ∧ ownS Gx.encI o8890.2.2 p8581 c8582 sg8903 ∧ Mem [] w w' [sg8895, sg8900] ∧ Sat Try.f36.ntmps [(0, .slice p7330 x7328.length c7331), (5, .slice p8893 o8890.1.length c8894), (6, .slice p8898 o8890.2.1.length c8899), (7, .int .i64 s8566.2.2.1)] a) ?_ ?_
      · have hm := ho8891
        refine G_block ?_
        refine G_seq ?_
        refine G_region ?_
        refine W_run 1 [(0, .slice p7330 x7328.length c7331), (5, .slice p8576 s8566.1.length c8577), (6, .slice p8581 s8566.2.1.length c8582), (7, .int .i64 s8566.2.2.1), (8, .int .i64 0)] w8570 (by kernel_rfl) ?_
        refine W_nil ?_
        refine N_then ?_
        refine G_seq ?_
        obtain ⟨out8956, hw8957, hmo8958⟩ := gx_bind hm
        refine G_meet (fun a w' => Mem [] w w' [sg8578, sg8583] ∧ Sat Try.f36.ntmps [(0, .slice p7330 x7328.length c7331), (5, .slice p8576 s8566.1.length c8577), (6, .slice p8581 s8566.2.1.length c8582), (7, .int .i64 s8566.2.2.1), (8, .int .i64 out8956)] a) ?_ ?_
        · refine G_block ?_
          refine G_while (σ := Int) (ρ := Int) (fun s8949 a w' => Mem [] w w' [sg8578, sg8583] ∧ Sat Try.f36.ntmps [(0, .slice p7330 x7328.length c7331), (5, .slice p8576 s8566.1.length c8577), (6, .slice p8581 s8566.2.1.length c8582), (7, .int .i64 s8566.2.2.1), (8, .int .i64 s8949)] a) hw8957 (fun a ha => ⟨M8571.pick [0, 1] (by kernel_rfl), ha.sub (by kernel_rfl)⟩) ?_
          clear hm
          intro s8949 x8950 hm hout8951 a8952 w8953 ⟨M8954, hS8955⟩
          refine G_use hS8955 ?_
          refine G_seq ?_
          refine G_seq ?_
          obtain ⟨o8967, ho8968, hm8969⟩ := gx_bind hm
          refine G_meet (fun a w' => Mem [] w w' [sg8578, sg8583] ∧ Sat Try.f36.ntmps [(0, .slice p7330 x7328.length c7331), (5, .slice p8576 s8566.1.length c8577), (6, .slice p8581 s8566.2.1.length c8582), (7, .int .i64 s8566.2.2.1), (8, .int .i64 s8949), (37, .bool o8967)] a) ?_ ?_
          · have hm := ho8968
            refine G_quiet (by kernel_rfl) (by kernel_rfl) M8954 ?_
            refine Z_runs [.int .i64 s8949, .slice p8576 s8566.1.length c8577, .int .i64 (s8566.1.length : Int), .bool (decide (s8949 < (s8566.1.length : Int))), .bool (decide (s8949 < (s8566.1.length : Int)))] [(0, .slice p7330 x7328.length c7331), (5, .slice p8576 s8566.1.length c8577), (6, .slice p8581 s8566.2.1.length c8582), (7, .int .i64 s8566.2.2.1), (8, .int .i64 s8949), (26, .bool (decide (s8949 < (s8566.1.length : Int))))] (fun w_ => by kernel_rfl) (by kernel_rfl) ?_
            rcases gx_bif hm with ⟨hc8970, hm⟩ | ⟨hc8970, hm⟩
            · refine Z_known 26 true (by kernel_rfl) hc8970 ?_
              refine Z_runs [.slice p8576 s8566.1.length c8577, .int .i64 s8949] [(0, .slice p7330 x7328.length c7331), (5, .slice p8576 s8566.1.length c8577), (6, .slice p8581 s8566.2.1.length c8582), (7, .int .i64 s8566.2.2.1), (8, .int .i64 s8949), (26, .bool true), (27, .slice p8576 s8566.1.length c8577), (28, .int .i64 s8949)] (fun w_ => by kernel_rfl) (by kernel_rfl) ?_
              obtain ⟨y8971, hy8971, hm⟩ := gx_bind hm
              refine Z_val (elemP p8576 (s8949.toNat * 1)) (by kernel_rfl) (fun w_ M_ => (E_index (E := Gx.encS) _ _ _ s8566.1.length c8577 .i64 s8949 1 (y := y8971) rfl (by kernel_rfl) (by kernel_rfl) (by kernel_rfl) (ho8579.rd M_ 0 (by kernel_rfl)) rfl hy8971)) ?_
              refine Z_val (.string y8971) (by kernel_rfl) (fun w_ M_ => (E_loadE (E := Gx.encS) _ _ false 1 s8949 0 (s8949.toNat * 1) y8971 (.string y8971) rfl (by kernel_rfl) (by kernel_rfl) (by kernel_rfl) (ho8579.rd M_ 0 (by kernel_rfl)) hy8971 rfl)) ?_
              refine Z_runs [.slice p7330 x7328.length c7331, .int .i64 s8566.2.2.1] [(0, .slice p7330 x7328.length c7331), (5, .slice p8576 s8566.1.length c8577), (6, .slice p8581 s8566.2.1.length c8582), (7, .int .i64 s8566.2.2.1), (8, .int .i64 s8949), (26, .bool true), (30, .string y8971), (31, .slice p7330 x7328.length c7331), (32, .int .i64 s8566.2.2.1)] (fun w_ => by kernel_rfl) (by kernel_rfl) ?_
              obtain ⟨y8972, hy8972, hm⟩ := gx_bind hm
              refine Z_val (elemP p7330 (s8566.2.2.1.toNat * 4)) (by kernel_rfl) (fun w_ M_ => (E_index (E := encEvent) _ _ _ x7328.length c7331 .i64 s8566.2.2.1 4 (y := y8972) rfl (by kernel_rfl) (by kernel_rfl) (by kernel_rfl) (h7332.mem0 M_) rfl hy8972)) ?_
              refine Z_val (elemP p7330 (s8566.2.2.1.toNat * 4 + 2)) (by kernel_rfl) (fun w_ M_ => (E_fieldE (E := encEvent) _ _ 2 (s8566.2.2.1.toNat * 4) 2 rfl (by kernel_rfl) (by kernel_rfl) (h7332.mem0 M_) hy8972)) ?_
              refine Z_val (.string y8972.Kind) (by kernel_rfl) (fun w_ M_ => (E_loadE (E := encEvent) _ _ false 1 s8566.2.2.1 2 (s8566.2.2.1.toNat * 4 + 2) y8972 (.string y8972.Kind) rfl (by kernel_rfl) (by kernel_rfl) (by kernel_rfl) (h7332.mem0 M_) hy8972 rfl)) ?_
              refine Z_runs [.bool (Op.bytesLess y8971.toList y8972.Kind.toList), .bool (Op.bytesLess y8971.toList y8972.Kind.toList)] [(0, .slice p7330 x7328.length c7331), (5, .slice p8576 s8566.1.length c8577), (6, .slice p8581 s8566.2.1.length c8582), (7, .int .i64 s8566.2.2.1), (8, .int .i64 s8949), (37, .bool (Op.bytesLess y8971.toList y8972.Kind.toList))] (fun w_ => by kernel_rfl) (by kernel_rfl) ?_
              refine Z_end fun w8973 M8974 => ?_
              obtain rfl := Option.some.inj hm
              exact N_meet fun a ha => ⟨M8974.pick [0, 1] (by kernel_rfl), ha.sub (by kernel_rfl)⟩
            refine Z_known 26 false (by kernel_rfl) hc8970 ?_
            refine Z_runs [undef, undef, undef, undef, undef, undef, undef, undef, undef, undef, .bool false] [(0, .slice p7330 x7328.length c7331), (5, .slice p8576 s8566.1.length c8577), (6, .slice p8581 s8566.2.1.length c8582), (7, .int .i64 s8566.2.2.1), (8, .int .i64 s8949), (37, .bool false)] (fun w_ => by kernel_rfl) (by kernel_rfl) ?_
            refine Z_end fun w8975 M8976 => ?_
            obtain rfl := Option.some.inj hm
            exact N_meet fun a ha => ⟨M8976.pick [0, 1] (by kernel_rfl), ha.sub (by kernel_rfl)⟩
          intro a8979 w8977 ⟨M8978, hS8980⟩
          refine N_use hS8980 ?_
          have hm := hm8969
          refine N_then ?_
          rcases gx_bif hm with ⟨hc8981, hm⟩ | ⟨hc8981, hm⟩
          · refine G_cond_t (b := o8967) hc8981 (by kernel_rfl) ?_
            refine G_skip ?_
            refine N_then ?_
            refine G_block ?_
            refine G_region ?_
            refine W_run 3 [(0, .slice p7330 x7328.length c7331), (5, .slice p8576 s8566.1.length c8577), (6, .slice p8581 s8566.2.1.length c8582), (7, .int .i64 s8566.2.2.1), (8, .int .i64 (w64 (s8949 + 1)))] w8977 (by kernel_rfl) ?_
            refine W_nil ?_
            refine N_block ?_
            obtain rfl := Option.some.inj hm
            exact N_loop fun a ha => ⟨_, rfl, M8978.pick [0, 1] (by kernel_rfl), ha.sub (by kernel_rfl)⟩
          refine G_cond_f (b := o8967) hc8981 (by kernel_rfl) ?_
          refine G_exit ?_
          refine N_then_exit ?_
          refine N_then_exit ?_
          refine N_block_eq ?_
          obtain rfl := Option.some.inj hm
          obtain rfl := hout8951 _ rfl
          exact N_meet fun a ha => ⟨M8978.pick [0, 1] (by kernel_rfl), ha.sub (by kernel_rfl)⟩
        intro a8982 w8983 ⟨M8984, hS8985⟩
        refine N_use hS8985 ?_
        have hm := hmo8958
        refine N_then ?_
        refine G_seq ?_
        refine G_seq ?_
        obtain ⟨o8993, ho8994, hm8995⟩ := gx_bind hm
        refine G_meet (fun a w' => Mem [] w w' [sg8578, sg8583] ∧ Sat Try.f36.ntmps [(0, .slice p7330 x7328.length c7331), (5, .slice p8576 s8566.1.length c8577), (6, .slice p8581 s8566.2.1.length c8582), (7, .int .i64 s8566.2.2.1), (8, .int .i64 out8956), (55, .bool o8993)] a) ?_ ?_
        · have hm := ho8994
          refine G_quiet (by kernel_rfl) (by kernel_rfl) M8984 ?_
          refine Z_runs [.int .i64 out8956, .slice p8576 s8566.1.length c8577, .int .i64 (s8566.1.length : Int), .bool (decide (out8956 < (s8566.1.length : Int))), .bool (decide (out8956 < (s8566.1.length : Int)))] [(0, .slice p7330 x7328.length c7331), (5, .slice p8576 s8566.1.length c8577), (6, .slice p8581 s8566.2.1.length c8582), (7, .int .i64 s8566.2.2.1), (8, .int .i64 out8956), (44, .bool (decide (out8956 < (s8566.1.length : Int))))] (fun w_ => by kernel_rfl) (by kernel_rfl) ?_
          rcases gx_bif hm with ⟨hc8996, hm⟩ | ⟨hc8996, hm⟩
          · refine Z_known 44 true (by kernel_rfl) hc8996 ?_
            refine Z_runs [.slice p8576 s8566.1.length c8577, .int .i64 out8956] [(0, .slice p7330 x7328.length c7331), (5, .slice p8576 s8566.1.length c8577), (6, .slice p8581 s8566.2.1.length c8582), (7, .int .i64 s8566.2.2.1), (8, .int .i64 out8956), (44, .bool true), (45, .slice p8576 s8566.1.length c8577), (46, .int .i64 out8956)] (fun w_ => by kernel_rfl) (by kernel_rfl) ?_
            obtain ⟨y8997, hy8997, hm⟩ := gx_bind hm
            refine Z_val (elemP p8576 (out8956.toNat * 1)) (by kernel_rfl) (fun w_ M_ => (E_index (E := Gx.encS) _ _ _ s8566.1.length c8577 .i64 out8956 1 (y := y8997) rfl (by kernel_rfl) (by kernel_rfl) (by kernel_rfl) (ho8579.rd M_ 0 (by kernel_rfl)) rfl hy8997)) ?_
            refine Z_val (.string y8997) (by kernel_rfl) (fun w_ M_ => (E_loadE (E := Gx.encS) _ _ false 1 out8956 0 (out8956.toNat * 1) y8997 (.string y8997) rfl (by kernel_rfl) (by kernel_rfl) (by kernel_rfl) (ho8579.rd M_ 0 (by kernel_rfl)) hy8997 rfl)) ?_
            refine Z_runs [.slice p7330 x7328.length c7331, .int .i64 s8566.2.2.1] [(0, .slice p7330 x7328.length c7331), (5, .slice p8576 s8566.1.length c8577), (6, .slice p8581 s8566.2.1.length c8582), (7, .int .i64 s8566.2.2.1), (8, .int .i64 out8956), (44, .bool true), (48, .string y8997), (49, .slice p7330 x7328.length c7331), (50, .int .i64 s8566.2.2.1)] (fun w_ => by kernel_rfl) (by kernel_rfl) ?_
            obtain ⟨y8998, hy8998, hm⟩ := gx_bind hm
            refine Z_val (elemP p7330 (s8566.2.2.1.toNat * 4)) (by kernel_rfl) (fun w_ M_ => (E_index (E := encEvent) _ _ _ x7328.length c7331 .i64 s8566.2.2.1 4 (y := y8998) rfl (by kernel_rfl) (by kernel_rfl) (by kernel_rfl) (h7332.mem0 M_) rfl hy8998)) ?_
            refine Z_val (elemP p7330 (s8566.2.2.1.toNat * 4 + 2)) (by kernel_rfl) (fun w_ M_ => (E_fieldE (E := encEvent) _ _ 2 (s8566.2.2.1.toNat * 4) 2 rfl (by kernel_rfl) (by kernel_rfl) (h7332.mem0 M_) hy8998)) ?_
            refine Z_val (.string y8998.Kind) (by kernel_rfl) (fun w_ M_ => (E_loadE (E := encEvent) _ _ false 1 s8566.2.2.1 2 (s8566.2.2.1.toNat * 4 + 2) y8998 (.string y8998.Kind) rfl (by kernel_rfl) (by kernel_rfl) (by kernel_rfl) (h7332.mem0 M_) hy8998 rfl)) ?_
            refine Z_runs [.bool (y8997.toList == y8998.Kind.toList), .bool (y8997.toList == y8998.Kind.toList)] [(0, .slice p7330 x7328.length c7331), (5, .slice p8576 s8566.1.length c8577), (6, .slice p8581 s8566.2.1.length c8582), (7, .int .i64 s8566.2.2.1), (8, .int .i64 out8956), (55, .bool (y8997.toList == y8998.Kind.toList))] (fun w_ => by kernel_rfl) (by kernel_rfl) ?_
            refine Z_end fun w8999 M9000 => ?_
            obtain rfl := Option.some.inj hm
            exact N_meet fun a ha => ⟨M9000.pick [0, 1] (by kernel_rfl), ha.sub (by kernel_rfl)⟩
          refine Z_known 44 false (by kernel_rfl) hc8996 ?_
          refine Z_runs [undef, undef, undef, undef, undef, undef, undef, undef, undef, undef, .bool false] [(0, .slice p7330 x7328.length c7331), (5, .slice p8576 s8566.1.length c8577), (6, .slice p8581 s8566.2.1.length c8582), (7, .int .i64 s8566.2.2.1), (8, .int .i64 out8956), (55, .bool false)] (fun w_ => by kernel_rfl) (by kernel_rfl) ?_
          refine Z_end fun w9001 M9002 => ?_
          obtain rfl := Option.some.inj hm
          exact N_meet fun a ha => ⟨M9002.pick [0, 1] (by kernel_rfl), ha.sub (by kernel_rfl)⟩
        intro a9005 w9003 ⟨M9004, hS9006⟩
        refine N_use hS9006 ?_
        have hm := hm8995
        refine N_then ?_
        rcases gx_bif hm with ⟨hc9007, hm⟩ | ⟨hc9007, hm⟩
        · refine G_cond_t (b := o8993) hc9007 (by kernel_rfl) ?_
          refine G_seq ?_
          refine G_region ?_
          refine W_run 4 [(0, .slice p7330 x7328.length c7331), (5, .slice p8576 s8566.1.length c8577), (6, .slice p8581 s8566.2.1.length c8582), (7, .int .i64 s8566.2.2.1), (56, .slice p8581 s8566.2.1.length c8582), (57, .int .i64 out8956), (58, .slice p8581 s8566.2.1.length c8582), (59, .int .i64 out8956)] w9003 (by kernel_rfl) ?_
          obtain ⟨y9008, hy9008, hm⟩ := gx_bind hm
          refine W_val (elemP p8581 (out8956.toNat * 1)) w9003 (by kernel_rfl) (E_index (E := Gx.encI) _ _ _ s8566.2.1.length c8582 .i64 out8956 1 (y := y9008) rfl (by kernel_rfl) (by kernel_rfl) (by kernel_rfl) (ho8584.rd M9004 1 (by kernel_rfl)) rfl hy9008) ?_
          refine W_val (.int .i64 y9008) w9003 (by kernel_rfl) (E_loadE (E := Gx.encI) _ _ false 1 out8956 0 (out8956.toNat * 1) y9008 (.int .i64 y9008) rfl (by kernel_rfl) (by kernel_rfl) (by kernel_rfl) (ho8584.rd M9004 1 (by kernel_rfl)) hy9008 rfl) ?_
          refine W_run 1 [(0, .slice p7330 x7328.length c7331), (5, .slice p8576 s8566.1.length c8577), (6, .slice p8581 s8566.2.1.length c8582), (7, .int .i64 s8566.2.2.1), (56, .slice p8581 s8566.2.1.length c8582), (57, .int .i64 out8956), (62, .int .i64 (w64 (y9008 + 1)))] w9003 (by kernel_rfl) ?_
          obtain ⟨y9009, hy9009, hm⟩ := gx_bind hm
          refine W_val (elemP p8581 (out8956.toNat * 1)) w9003 (by kernel_rfl) (E_index (E := Gx.encI) _ _ _ s8566.2.1.length c8582 .i64 out8956 1 (y := y9009) rfl (by kernel_rfl) (by kernel_rfl) (by kernel_rfl) (ho8584.rd M9004 1 (by kernel_rfl)) rfl hy9009) ?_
          refine W_storeE (E := Gx.encI) _ _ _ false 1 out8956.toNat 0 (out8956.toNat * 1) y9009 (w64 (y9008 + 1)) (.int .i64 (w64 (y9008 + 1))) 1 M9004 ho8584 (by kernel_rfl) (by kernel_rfl) rfl (by kernel_rfl) (by kernel_rfl) (by kernel_rfl) (by kernel_rfl) (by kernel_rfl) (by kernel_rfl) (by kernel_rfl) (gxIdx_spec hy9009).2 rfl ?_
          intro w9010 sg9012 ho9013 M9011
          refine W_conv 6 (.slice p8581 s8566.2.1.length c8582) (.slice p8581 (s8566.2.1.set out8956.toNat (w64 (y9008 + 1))).length c8582) (by kernel_rfl) (by rw [@List.length_set _ s8566.2.1 out8956.toNat (w64 (y9008 + 1))]) ?_
          refine W_conv 56 (.slice p8581 s8566.2.1.length c8582) (.slice p8581 (s8566.2.1.set out8956.toNat (w64 (y9008 + 1))).length c8582) (by kernel_rfl) (by rw [@List.length_set _ s8566.2.1 out8956.toNat (w64 (y9008 + 1))]) ?_
          refine W_nil ?_
          refine N_then ?_
          refine G_exit ?_
          refine N_then_exit ?_
          refine N_block_eq ?_
          obtain rfl := Option.some.inj hm
          exact N_meet fun a ha => ⟨p8576, c8577, sg8578, p8581, c8582, sg9012, sg9012, ho8579, ho9013, ho9013, M9011.pick [0, 1] (by kernel_rfl), ha.sub (by kernel_rfl)⟩
        refine G_cond_f (b := o8993) hc9007 (by kernel_rfl) ?_
        refine G_skip ?_
        refine N_then ?_
        refine G_seq ?_
        obtain ⟨ys9021, hys9021, hm⟩ := gx_bind hm
        obtain ⟨ap9023, hap9023, hm⟩ := gx_bind hm
        obtain ⟨y9029, hy9029, hm⟩ := gx_bind hm
        obtain ⟨ap9035, hap9035, hm⟩ := gx_bind hm
        obtain ⟨ys9041, hys9041, hm⟩ := gx_bind hm
        refine G_sub [(0, .slice p7330 x7328.length c7331), (5, .slice p8576 s8566.1.length c8577), (6, .slice p8581 s8566.2.1.length c8582), (7, .int .i64 s8566.2.2.1), (8, .int .i64 out8956), (55, .bool o8993)] (by kernel_rfl) ?_
        refine G_dagL 15 [[], [], [], [1, 2], [0, 3], [], [], [5, 6], [7], [8], [9], [4, 10], [], [], [12, 13]] [[], [], [], [], [0], [], [], [], [], [], [], [4], [], [], []] [[], [], [], [], [], [], [], [], [], [], [], [10], [], [], []] [[], [], [], [], [], [], [], [], [], [], [], [], [], [], []] [[], [], [], [], [], [], [], [], [], [], [], [], [], [], []] [[], [], [], [], [], [], [], [], [], [], [], [], [], [], []] (fun _ => []) (fun i => ([fun f v s => ∃ (p9017 : Option Addr) (c9018 : Nat), v = (.slice p9017 ([] : List ByteArray).length c9018 : Value) ∧ ownS Gx.encS ([] : List ByteArray) p9017 c9018 s, fun f v s => v = (.slice p8576 s8566.1.length c8577 : Value) ∧ s = [], fun f v s => v = (.int .i64 out8956 : Value) ∧ s = [], fun f v s => v = (.slice (subP p8576 (0 : Int).toNat c8577 1) ys9021.length (c8577 - (0 : Int).toNat) : Value) ∧ s = [], fun f v s => ∃ (p9025 : Option Addr) (c9026 : Nat), v = (.slice p9025 ap9023.length c9026 : Value) ∧ ownS Gx.encS ap9023 p9025 c9026 s, fun f v s => v = (.slice p7330 x7328.length c7331 : Value) ∧ s = [], fun f v s => v = (.int .i64 s8566.2.2.1 : Value) ∧ s = [], fun f v s => v = (elemP p7330 (s8566.2.2.1.toNat * 4) : Value) ∧ s = [], fun f v s => v = (elemP p7330 (s8566.2.2.1.toNat * 4 + 2) : Value) ∧ s = [], fun f v s => v = (.string y9029.Kind : Value) ∧ s = [], fun f v s => ∃ (p9031 : Option Addr) (c9032 : Nat), v = (.slice p9031 [y9029.Kind].length c9032 : Value) ∧ ownS Gx.encS [y9029.Kind] p9031 c9032 s, fun f v s => ∃ (p9037 : Option Addr) (c9038 : Nat), v = (.slice p9037 ap9035.length c9038 : Value) ∧ ownS Gx.encS ap9035 p9037 c9038 s, fun f v s => v = (.slice p8576 s8566.1.length c8577 : Value) ∧ s = [], fun f v s => v = (.int .i64 out8956 : Value) ∧ s = [], fun f v s => v = (.slice (subP p8576 out8956.toNat c8577 1) ys9041.length (c8577 - out8956.toNat) : Value) ∧ s = []] : List ((Nat → Value) → Value → Seg → Prop)).getD i (fun _ _ _ => False)) (fun j f v => ∃ s, (fun i => ([fun f v s => ∃ (p9017 : Option Addr) (c9018 : Nat), v = (.slice p9017 ([] : List ByteArray).length c9018 : Value) ∧ ownS Gx.encS ([] : List ByteArray) p9017 c9018 s, fun f v s => v = (.slice p8576 s8566.1.length c8577 : Value) ∧ s = [], fun f v s => v = (.int .i64 out8956 : Value) ∧ s = [], fun f v s => v = (.slice (subP p8576 (0 : Int).toNat c8577 1) ys9021.length (c8577 - (0 : Int).toNat) : Value) ∧ s = [], fun f v s => ∃ (p9025 : Option Addr) (c9026 : Nat), v = (.slice p9025 ap9023.length c9026 : Value) ∧ ownS Gx.encS ap9023 p9025 c9026 s, fun f v s => v = (.slice p7330 x7328.length c7331 : Value) ∧ s = [], fun f v s => v = (.int .i64 s8566.2.2.1 : Value) ∧ s = [], fun f v s => v = (elemP p7330 (s8566.2.2.1.toNat * 4) : Value) ∧ s = [], fun f v s => v = (elemP p7330 (s8566.2.2.1.toNat * 4 + 2) : Value) ∧ s = [], fun f v s => v = (.string y9029.Kind : Value) ∧ s = [], fun f v s => ∃ (p9031 : Option Addr) (c9032 : Nat), v = (.slice p9031 [y9029.Kind].length c9032 : Value) ∧ ownS Gx.encS [y9029.Kind] p9031 c9032 s, fun f v s => ∃ (p9037 : Option Addr) (c9038 : Nat), v = (.slice p9037 ap9035.length c9038 : Value) ∧ ownS Gx.encS ap9035 p9037 c9038 s, fun f v s => v = (.slice p8576 s8566.1.length c8577 : Value) ∧ s = [], fun f v s => v = (.int .i64 out8956 : Value) ∧ s = [], fun f v s => v = (.slice (subP p8576 out8956.toNat c8577 1) ys9041.length (c8577 - out8956.toNat) : Value) ∧ s = []] : List ((Nat → Value) → Value → Seg → Prop)).getD i (fun _ _ _ => False)) j f v s) [] [10, 11, 14] [10, 11] (fun _ _ _ s h => ⟨s, h⟩) (by kernel_rfl) (by kernel_rfl) (M9004.preNil 15) (by kernel_rfl) (by kernel_rfl) (by kernel_rfl) (by kernel_rfl) (allOb_cons ?_ (allOb_cons ?_ (allOb_cons ?_ (allOb_cons ?_ (allOb_cons ?_ (allOb_cons ?_ (allOb_cons ?_ (allOb_cons ?_ (allOb_cons ?_ (allOb_cons ?_ (allOb_cons ?_ (allOb_cons ?_ (allOb_cons ?_ (allOb_cons ?_ (allOb_cons ?_ allOb_nil))))))))))))))) ?_
        · intro g9014 f9015
          intro R w9043 M9044
          refine W_lit (E := Gx.encS) ([] : List ByteArray) 0 [] 9 M9044 (by kernel_rfl) (by kernel_rfl) (by kernel_rfl) (by kernel_rfl) (by kernel_rfl) ?_
          intro p9017 c9018 sg9019 w9045 ho9020 M9046
          exact W_nil (ob_end (.slice p9017 ([] : List ByteArray).length c9018) sg9019 rfl (by kernel_rfl) ⟨p9017, c9018, rfl, ho9020⟩ (Mem.mid M9046))
        · intro g9014 f9015
          intro R w9047 M9048
          refine W_run 1 [(65, .slice p8576 s8566.1.length c8577)] w9047 (by kernel_rfl) ?_
          exact W_nil (ob_end (.slice p8576 s8566.1.length c8577) [] rfl (by kernel_rfl) ⟨by kernel_rfl, rfl⟩ M9048)
        · intro g9014 f9015
          intro R w9051 M9052
          refine W_run 1 [(66, .int .i64 out8956)] w9051 (by kernel_rfl) ?_
          exact W_nil (ob_end (.int .i64 out8956) [] rfl (by kernel_rfl) ⟨by kernel_rfl, rfl⟩ M9052)
        · intro g9014 f9015
          intro v1_ hb1_
          obtain ⟨rfl, _⟩ := hb1_
          intro v2_ hb2_
          obtain ⟨rfl, _⟩ := hb2_
          intro R w9055 M9056
          refine W_val (.slice (subP p8576 (0 : Int).toNat c8577 1) ys9021.length (c8577 - (0 : Int).toNat)) w9055 (by kernel_rfl) (E_slice (E := Gx.encS) _ _ _ _ s8566.1.length 0 out8956 rfl (by kernel_rfl) (Or.inl ⟨rfl, rfl⟩) (Or.inr ⟨_, rfl, by kernel_rfl⟩) (by kernel_rfl) (ho8579.rd M9056 0 (by kernel_rfl)) rfl hys9021) ?_
          exact W_nil (ob_end (.slice (subP p8576 (0 : Int).toNat c8577 1) ys9021.length (c8577 - (0 : Int).toNat)) [] rfl (by kernel_rfl) ⟨by kernel_rfl, rfl⟩ M9056)
        · intro g9014 f9015
          intro v0_ hb0_
          obtain ⟨p9017, c9018, rfl, ho9020⟩ := hb0_
          intro v3_ hb3_
          obtain ⟨rfl, _⟩ := hb3_
          intro R w9059 M9060
          refine W_append (E := Gx.encS) _ _ _ 16 [.string ByteArray.empty] 3 (c8577 - (0 : Int).toNat) M9060 ho9020 (by kernel_rfl) (by kernel_rfl) (by kernel_rfl) rfl (by kernel_rfl) (by kernel_rfl) (by kernel_rfl) (by kernel_rfl) (by kernel_rfl) (by kernel_rfl) ((ho8579.rd M9060 0 (by kernel_rfl)).sliceM hys9021) hap9023 ?_
          intro p9025 c9026 sg9027 w9061 ho9028 M9062
          exact W_nil (ob_end (.slice p9025 ap9023.length c9026) sg9027 rfl (by kernel_rfl) ⟨p9025, c9026, rfl, ho9028⟩ (Mem.takeOver M9062))
        · intro g9014 f9015
          intro R w9063 M9064
          refine W_run 1 [(69, .slice p7330 x7328.length c7331)] w9063 (by kernel_rfl) ?_
          exact W_nil (ob_end (.slice p7330 x7328.length c7331) [] rfl (by kernel_rfl) ⟨by kernel_rfl, rfl⟩ M9064)
        · intro g9014 f9015
          intro R w9067 M9068
          refine W_run 1 [(70, .int .i64 s8566.2.2.1)] w9067 (by kernel_rfl) ?_
          exact W_nil (ob_end (.int .i64 s8566.2.2.1) [] rfl (by kernel_rfl) ⟨by kernel_rfl, rfl⟩ M9068)
        · intro g9014 f9015
          intro v5_ hb5_
          obtain ⟨rfl, _⟩ := hb5_
          intro v6_ hb6_
          obtain ⟨rfl, _⟩ := hb6_
          intro R w9071 M9072
          refine W_val (elemP p7330 (s8566.2.2.1.toNat * 4)) w9071 (by kernel_rfl) (E_index (E := encEvent) _ _ _ x7328.length c7331 .i64 s8566.2.2.1 4 (y := y9029) rfl (by kernel_rfl) (by kernel_rfl) (by kernel_rfl) (h7332.mem0 M9072) rfl hy9029) ?_
          exact W_nil (ob_end (elemP p7330 (s8566.2.2.1.toNat * 4)) [] rfl (by kernel_rfl) ⟨by kernel_rfl, rfl⟩ M9072)
        · intro g9014 f9015
          intro v7_ hb7_
          obtain ⟨rfl, _⟩ := hb7_
          intro R w9075 M9076
          refine W_val (elemP p7330 (s8566.2.2.1.toNat * 4 + 2)) w9075 (by kernel_rfl) (E_fieldE (E := encEvent) _ _ 2 (s8566.2.2.1.toNat * 4) 2 rfl (by kernel_rfl) (by kernel_rfl) (h7332.mem0 M9076) hy9029) ?_
          exact W_nil (ob_end (elemP p7330 (s8566.2.2.1.toNat * 4 + 2)) [] rfl (by kernel_rfl) ⟨by kernel_rfl, rfl⟩ M9076)
        · intro g9014 f9015
          intro v8_ hb8_
          obtain ⟨rfl, _⟩ := hb8_
          intro R w9079 M9080
          refine W_val (.string y9029.Kind) w9079 (by kernel_rfl) (E_loadE (E := encEvent) _ _ false 1 s8566.2.2.1 2 (s8566.2.2.1.toNat * 4 + 2) y9029 (.string y9029.Kind) rfl (by kernel_rfl) (by kernel_rfl) (by kernel_rfl) (h7332.mem0 M9080) hy9029 rfl) ?_
          exact W_nil (ob_end (.string y9029.Kind) [] rfl (by kernel_rfl) ⟨by kernel_rfl, rfl⟩ M9080)
        · intro g9014 f9015
          intro v9_ hb9_
          obtain ⟨rfl, _⟩ := hb9_
          intro R w9083 M9084
          refine W_lit (E := Gx.encS) [y9029.Kind] 1 [.string y9029.Kind] 9 M9084 (by kernel_rfl) (by kernel_rfl) (by kernel_rfl) (by kernel_rfl) (by kernel_rfl) ?_
          intro p9031 c9032 sg9033 w9085 ho9034 M9086
          exact W_nil (ob_end (.slice p9031 [y9029.Kind].length c9032) sg9033 rfl (by kernel_rfl) ⟨p9031, c9032, rfl, ho9034⟩ (Mem.mid M9086))
        · intro g9014 f9015
          intro v4_ hb4_
          obtain ⟨p9025, c9026, rfl, ho9028⟩ := hb4_
          intro v10_ hb10_
          obtain ⟨p9031, c9032, rfl, ho9034⟩ := hb10_
          intro R w9087 M9088
          refine W_append (E := Gx.encS) _ _ _ 16 [.string ByteArray.empty] 3 c9032 M9088 ho9028 (by kernel_rfl) (by kernel_rfl) (by kernel_rfl) rfl (by kernel_rfl) (by kernel_rfl) (by kernel_rfl) (by kernel_rfl) (by kernel_rfl) (by kernel_rfl) (ho9034.rd M9088 4 (by kernel_rfl)) hap9035 ?_
          intro p9037 c9038 sg9039 w9089 ho9040 M9090
          exact W_nil (ob_end (.slice p9037 ap9035.length c9038) sg9039 rfl (by kernel_rfl) ⟨p9037, c9038, rfl, ho9040⟩ (Mem.takeOver M9090))
        · intro g9014 f9015
          intro R w9091 M9092
          refine W_run 1 [(76, .slice p8576 s8566.1.length c8577)] w9091 (by kernel_rfl) ?_
          exact W_nil (ob_end (.slice p8576 s8566.1.length c8577) [] rfl (by kernel_rfl) ⟨by kernel_rfl, rfl⟩ M9092)
        · intro g9014 f9015
          intro R w9095 M9096
          refine W_run 1 [(77, .int .i64 out8956)] w9095 (by kernel_rfl) ?_
          exact W_nil (ob_end (.int .i64 out8956) [] rfl (by kernel_rfl) ⟨by kernel_rfl, rfl⟩ M9096)
        · intro g9014 f9015
          intro v12_ hb12_
          obtain ⟨rfl, _⟩ := hb12_
          intro v13_ hb13_
          obtain ⟨rfl, _⟩ := hb13_
          intro R w9099 M9100
          refine W_val (.slice (subP p8576 out8956.toNat c8577 1) ys9041.length (c8577 - out8956.toNat)) w9099 (by kernel_rfl) (E_slice (E := Gx.encS) _ _ _ _ s8566.1.length out8956 (s8566.1.length : Int) rfl (by kernel_rfl) (Or.inr ⟨_, rfl, by kernel_rfl⟩) (Or.inl ⟨rfl, rfl⟩) (by kernel_rfl) (ho8579.rd M9100 0 (by kernel_rfl)) rfl hys9041) ?_
          exact W_nil (ob_end (.slice (subP p8576 out8956.toNat c8577 1) ys9041.length (c8577 - out8956.toNat)) [] rfl (by kernel_rfl) ⟨by kernel_rfl, rfl⟩ M9100)
        intro g9014 f9015
        intro v10_ hb10_
        obtain ⟨p9031, c9032, rfl, ho9034⟩ := hb10_
        intro v11_ hb11_
        obtain ⟨p9037, c9038, rfl, ho9040⟩ := hb11_
        intro v14_ hb14_
        obtain ⟨rfl, _⟩ := hb14_
        intro w9103 M9104
        have M9105 : Mem [] w w9103 [sg8578, sg8583, (g9014 10), (g9014 11)] := M9104
        obtain ⟨ap9106, hap9106, hm⟩ := gx_bind hm
        refine W_append (E := Gx.encS) _ _ _ 16 [.string ByteArray.empty] 3 (c8577 - out8956.toNat) M9105 ho9040 (by kernel_rfl) (by kernel_rfl) (by kernel_rfl) rfl (by kernel_rfl) (by kernel_rfl) (by kernel_rfl) (by kernel_rfl) (by kernel_rfl) (by kernel_rfl) ((ho8579.rd M9105 0 (by kernel_rfl)).sliceM hys9041) hap9106 ?_
        intro p9107 c9108 sg9109 w9110 ho9111 M9112
        refine W_run 1 [(0, .slice p7330 x7328.length c7331), (5, .slice p9107 ap9106.length c9108), (6, .slice p8581 s8566.2.1.length c8582), (7, .int .i64 s8566.2.2.1), (8, .int .i64 out8956)] w9110 (by kernel_rfl) ?_
        refine W_nil ?_
        refine N_then ?_
        obtain ⟨ys9121, hys9121, hm⟩ := gx_bind hm
        obtain ⟨ap9123, hap9123, hm⟩ := gx_bind hm
        obtain ⟨ap9134, hap9134, hm⟩ := gx_bind hm
        obtain ⟨ys9140, hys9140, hm⟩ := gx_bind hm
        refine G_sub [(0, .slice p7330 x7328.length c7331), (5, .slice p9107 ap9106.length c9108), (6, .slice p8581 s8566.2.1.length c8582), (7, .int .i64 s8566.2.2.1), (8, .int .i64 out8956)] (by kernel_rfl) ?_
        refine G_dagL 10 [[], [], [], [1, 2], [0, 3], [], [4, 5], [], [], [7, 8]] [[], [], [], [], [0], [], [4], [], [], []] [[], [], [], [], [], [], [5], [], [], []] [[], [], [], [], [], [], [], [], [], []] [[], [], [], [], [], [], [], [], [], []] [[], [], [], [], [], [], [], [], [], []] (fun _ => []) (fun i => ([fun f v s => ∃ (p9117 : Option Addr) (c9118 : Nat), v = (.slice p9117 ([] : List Int).length c9118 : Value) ∧ ownS Gx.encI ([] : List Int) p9117 c9118 s, fun f v s => v = (.slice p8581 s8566.2.1.length c8582 : Value) ∧ s = [], fun f v s => v = (.int .i64 out8956 : Value) ∧ s = [], fun f v s => v = (.slice (subP p8581 (0 : Int).toNat c8582 1) ys9121.length (c8582 - (0 : Int).toNat) : Value) ∧ s = [], fun f v s => ∃ (p9125 : Option Addr) (c9126 : Nat), v = (.slice p9125 ap9123.length c9126 : Value) ∧ ownS Gx.encI ap9123 p9125 c9126 s, fun f v s => ∃ (p9130 : Option Addr) (c9131 : Nat), v = (.slice p9130 [1].length c9131 : Value) ∧ ownS Gx.encI [1] p9130 c9131 s, fun f v s => ∃ (p9136 : Option Addr) (c9137 : Nat), v = (.slice p9136 ap9134.length c9137 : Value) ∧ ownS Gx.encI ap9134 p9136 c9137 s, fun f v s => v = (.slice p8581 s8566.2.1.length c8582 : Value) ∧ s = [], fun f v s => v = (.int .i64 out8956 : Value) ∧ s = [], fun f v s => v = (.slice (subP p8581 out8956.toNat c8582 1) ys9140.length (c8582 - out8956.toNat) : Value) ∧ s = []] : List ((Nat → Value) → Value → Seg → Prop)).getD i (fun _ _ _ => False)) (fun j f v => ∃ s, (fun i => ([fun f v s => ∃ (p9117 : Option Addr) (c9118 : Nat), v = (.slice p9117 ([] : List Int).length c9118 : Value) ∧ ownS Gx.encI ([] : List Int) p9117 c9118 s, fun f v s => v = (.slice p8581 s8566.2.1.length c8582 : Value) ∧ s = [], fun f v s => v = (.int .i64 out8956 : Value) ∧ s = [], fun f v s => v = (.slice (subP p8581 (0 : Int).toNat c8582 1) ys9121.length (c8582 - (0 : Int).toNat) : Value) ∧ s = [], fun f v s => ∃ (p9125 : Option Addr) (c9126 : Nat), v = (.slice p9125 ap9123.length c9126 : Value) ∧ ownS Gx.encI ap9123 p9125 c9126 s, fun f v s => ∃ (p9130 : Option Addr) (c9131 : Nat), v = (.slice p9130 [1].length c9131 : Value) ∧ ownS Gx.encI [1] p9130 c9131 s, fun f v s => ∃ (p9136 : Option Addr) (c9137 : Nat), v = (.slice p9136 ap9134.length c9137 : Value) ∧ ownS Gx.encI ap9134 p9136 c9137 s, fun f v s => v = (.slice p8581 s8566.2.1.length c8582 : Value) ∧ s = [], fun f v s => v = (.int .i64 out8956 : Value) ∧ s = [], fun f v s => v = (.slice (subP p8581 out8956.toNat c8582 1) ys9140.length (c8582 - out8956.toNat) : Value) ∧ s = []] : List ((Nat → Value) → Value → Seg → Prop)).getD i (fun _ _ _ => False)) j f v s) [] [5, 6, 9] [5, 6] (fun _ _ _ s h => ⟨s, h⟩) (by kernel_rfl) (by kernel_rfl) (M9112.preNil 10) (by kernel_rfl) (by kernel_rfl) (by kernel_rfl) (by kernel_rfl) (allOb_cons ?_ (allOb_cons ?_ (allOb_cons ?_ (allOb_cons ?_ (allOb_cons ?_ (allOb_cons ?_ (allOb_cons ?_ (allOb_cons ?_ (allOb_cons ?_ (allOb_cons ?_ allOb_nil)))))))))) ?_
        · intro g9114 f9115
          intro R w9142 M9143
          refine W_lit (E := Gx.encI) ([] : List Int) 0 [] 3 M9143 (by kernel_rfl) (by kernel_rfl) (by kernel_rfl) (by kernel_rfl) (by kernel_rfl) ?_
          intro p9117 c9118 sg9119 w9144 ho9120 M9145
          exact W_nil (ob_end (.slice p9117 ([] : List Int).length c9118) sg9119 rfl (by kernel_rfl) ⟨p9117, c9118, rfl, ho9120⟩ (Mem.mid M9145))
        · intro g9114 f9115
          intro R w9146 M9147
          refine W_run 1 [(81, .slice p8581 s8566.2.1.length c8582)] w9146 (by kernel_rfl) ?_
          exact W_nil (ob_end (.slice p8581 s8566.2.1.length c8582) [] rfl (by kernel_rfl) ⟨by kernel_rfl, rfl⟩ M9147)
        · intro g9114 f9115
          intro R w9150 M9151
          refine W_run 1 [(82, .int .i64 out8956)] w9150 (by kernel_rfl) ?_
          exact W_nil (ob_end (.int .i64 out8956) [] rfl (by kernel_rfl) ⟨by kernel_rfl, rfl⟩ M9151)
        · intro g9114 f9115
          intro v1_ hb1_
          obtain ⟨rfl, _⟩ := hb1_
          intro v2_ hb2_
          obtain ⟨rfl, _⟩ := hb2_
          intro R w9154 M9155
          refine W_val (.slice (subP p8581 (0 : Int).toNat c8582 1) ys9121.length (c8582 - (0 : Int).toNat)) w9154 (by kernel_rfl) (E_slice (E := Gx.encI) _ _ _ _ s8566.2.1.length 0 out8956 rfl (by kernel_rfl) (Or.inl ⟨rfl, rfl⟩) (Or.inr ⟨_, rfl, by kernel_rfl⟩) (by kernel_rfl) (ho8584.rd M9155 1 (by kernel_rfl)) rfl hys9121) ?_
          exact W_nil (ob_end (.slice (subP p8581 (0 : Int).toNat c8582 1) ys9121.length (c8582 - (0 : Int).toNat)) [] rfl (by kernel_rfl) ⟨by kernel_rfl, rfl⟩ M9155)
        · intro g9114 f9115
          intro v0_ hb0_
          obtain ⟨p9117, c9118, rfl, ho9120⟩ := hb0_
          intro v3_ hb3_
          obtain ⟨rfl, _⟩ := hb3_
          intro R w9158 M9159
          refine W_append (E := Gx.encI) _ _ _ 8 [.int .i64 0] 5 (c8582 - (0 : Int).toNat) M9159 ho9120 (by kernel_rfl) (by kernel_rfl) (by kernel_rfl) rfl (by kernel_rfl) (by kernel_rfl) (by kernel_rfl) (by kernel_rfl) (by kernel_rfl) (by kernel_rfl) ((ho8584.rd M9159 1 (by kernel_rfl)).sliceM hys9121) hap9123 ?_
          intro p9125 c9126 sg9127 w9160 ho9128 M9161
          exact W_nil (ob_end (.slice p9125 ap9123.length c9126) sg9127 rfl (by kernel_rfl) ⟨p9125, c9126, rfl, ho9128⟩ (Mem.takeOver M9161))
        · intro g9114 f9115
          intro R w9162 M9163
          refine W_lit (E := Gx.encI) [1] 1 [.int .i64 1] 3 M9163 (by kernel_rfl) (by kernel_rfl) (by kernel_rfl) (by kernel_rfl) (by kernel_rfl) ?_
          intro p9130 c9131 sg9132 w9164 ho9133 M9165
          exact W_nil (ob_end (.slice p9130 [1].length c9131) sg9132 rfl (by kernel_rfl) ⟨p9130, c9131, rfl, ho9133⟩ (Mem.mid M9165))
        · intro g9114 f9115
          intro v4_ hb4_
          obtain ⟨p9125, c9126, rfl, ho9128⟩ := hb4_
          intro v5_ hb5_
          obtain ⟨p9130, c9131, rfl, ho9133⟩ := hb5_
          intro R w9166 M9167
          refine W_append (E := Gx.encI) _ _ _ 8 [.int .i64 0] 5 c9131 M9167 ho9128 (by kernel_rfl) (by kernel_rfl) (by kernel_rfl) rfl (by kernel_rfl) (by kernel_rfl) (by kernel_rfl) (by kernel_rfl) (by kernel_rfl) (by kernel_rfl) (ho9133.rd M9167 6 (by kernel_rfl)) hap9134 ?_
          intro p9136 c9137 sg9138 w9168 ho9139 M9169
          exact W_nil (ob_end (.slice p9136 ap9134.length c9137) sg9138 rfl (by kernel_rfl) ⟨p9136, c9137, rfl, ho9139⟩ (Mem.takeOver M9169))
        · intro g9114 f9115
          intro R w9170 M9171
          refine W_run 1 [(87, .slice p8581 s8566.2.1.length c8582)] w9170 (by kernel_rfl) ?_
          exact W_nil (ob_end (.slice p8581 s8566.2.1.length c8582) [] rfl (by kernel_rfl) ⟨by kernel_rfl, rfl⟩ M9171)
        · intro g9114 f9115
          intro R w9174 M9175
          refine W_run 1 [(88, .int .i64 out8956)] w9174 (by kernel_rfl) ?_
          exact W_nil (ob_end (.int .i64 out8956) [] rfl (by kernel_rfl) ⟨by kernel_rfl, rfl⟩ M9175)
        · intro g9114 f9115
          intro v7_ hb7_
          obtain ⟨rfl, _⟩ := hb7_
          intro v8_ hb8_
          obtain ⟨rfl, _⟩ := hb8_
          intro R w9178 M9179
          refine W_val (.slice (subP p8581 out8956.toNat c8582 1) ys9140.length (c8582 - out8956.toNat)) w9178 (by kernel_rfl) (E_slice (E := Gx.encI) _ _ _ _ s8566.2.1.length out8956 (s8566.2.1.length : Int) rfl (by kernel_rfl) (Or.inr ⟨_, rfl, by kernel_rfl⟩) (Or.inl ⟨rfl, rfl⟩) (by kernel_rfl) (ho8584.rd M9179 1 (by kernel_rfl)) rfl hys9140) ?_
          exact W_nil (ob_end (.slice (subP p8581 out8956.toNat c8582 1) ys9140.length (c8582 - out8956.toNat)) [] rfl (by kernel_rfl) ⟨by kernel_rfl, rfl⟩ M9179)
        intro g9114 f9115
        intro v5_ hb5_
        obtain ⟨p9130, c9131, rfl, ho9133⟩ := hb5_
        intro v6_ hb6_
        obtain ⟨p9136, c9137, rfl, ho9139⟩ := hb6_
        intro v9_ hb9_
        obtain ⟨rfl, _⟩ := hb9_
        intro w9182 M9183
        have M9184 : Mem [] w w9182 [sg8578, sg8583, (g9014 10), sg9109, (g9114 5), (g9114 6)] := M9183
        obtain ⟨ap9185, hap9185, hm⟩ := gx_bind hm
        refine W_append (E := Gx.encI) _ _ _ 8 [.int .i64 0] 5 (c8582 - out8956.toNat) M9184 ho9139 (by kernel_rfl) (by kernel_rfl) (by kernel_rfl) rfl (by kernel_rfl) (by kernel_rfl) (by kernel_rfl) (by kernel_rfl) (by kernel_rfl) (by kernel_rfl) ((ho8584.rd M9184 1 (by kernel_rfl)).sliceM hys9140) hap9185 ?_
        intro p9186 c9187 sg9188 w9189 ho9190 M9191
        refine W_run 1 [(0, .slice p7330 x7328.length c7331), (5, .slice p9107 ap9106.length c9108), (6, .slice p9186 ap9185.length c9187), (7, .int .i64 s8566.2.2.1)] w9189 (by kernel_rfl) ?_
        refine W_nil ?_
        refine N_block ?_
        obtain rfl := Option.some.inj hm
        exact N_meet fun a ha => ⟨p9107, c9108, sg9109, p9186, c9187, sg9188, sg8583, ho9111, ho9190, ho8584, M9191.pick [3, 5] (by kernel_rfl), ha.sub (by kernel_rfl)⟩
      intro a9195 w9193 ⟨p8893, c8894, sg8895, p8898, c8899, sg8900, sg8903, ho8896, ho8901, ho8904, M9194, hS9196⟩
      refine N_use hS9196 ?_
      have hm := hm8892
      refine N_then ?_
      refine G_region ?_
      refine W_run 3 [(0, .slice p7330 x7328.length c7331), (5, .slice p8893 o8890.1.length c8894), (6, .slice p8898 o8890.2.1.length c8899), (7, .int .i64 (w64 (s8566.2.2.1 + 1)))] w9193 (by kernel_rfl) ?_
      refine W_nil ?_
      obtain rfl := Option.some.inj hm
      exact N_loop fun a ha => ⟨_, rfl, p8893, c8894, sg8895, p8898, c8899, sg8900, sg8586, ho8896, ho8901, ho8587, M9194.pick [0, 1] (by kernel_rfl), ha.sub (by kernel_rfl)⟩
    refine G_cond_f (b := (decide (s8566.2.2.1 < (x7328.length : Int)))) hc8601 (by kernel_rfl) ?_
    refine G_exit ?_
    refine N_then_exit ?_
    refine N_then_exit ?_
    refine N_block_eq ?_
    obtain rfl := Option.some.inj hm
    obtain rfl := hout8568 _ rfl
    exact N_meet fun a ha => ⟨p8576, c8577, sg8578, p8581, c8582, sg8583, sg8586, ho8579, ho8584, ho8587, M8571.pick [0, 1] (by kernel_rfl), ha.sub (by kernel_rfl)⟩
  intro a9197 w9198 ⟨p8589, c8590, sg8591, p8594, c8595, sg8596, sg8599, ho8592, ho8597, ho8600, M9199, hS9200⟩
  refine N_use hS9200 ?_
  have hm := hmo8575
  refine N_then ?_
  refine G_seq ?_
  refine G_region ?_
  refine W_run 5 [(2, .slice p8589 out8573.1.length c8590), (3, .slice p8594 out8573.2.1.length c8595), (4, .bool true)] w9198 (by kernel_rfl) ?_
  refine W_nil ?_
  refine N_then ?_
  refine G_ret ?_
  obtain rfl := Option.some.inj hm
  refine N_ret [.slice p8589 out8573.1.length c8590, .slice p8594 out8573.2.1.length c8595, .bool true] (RVs_cons (RV_tmp (by kernel_rfl)) (RVs_cons (RV_tmp (by kernel_rfl)) (RVs_cons (RV_tmp (by kernel_rfl)) RVs_nil))) ?_
  exact ⟨p8589, c8590, sg8591, p8594, c8595, sg8596, rfl, ho8592, ho8597, M9199.pick [0, 1] (by kernel_rfl)⟩
theorem c_slices_Sort_70 (w : World) (x9364 : List ByteArray) (p9366 : Option Addr) (c9367 : Nat) (sg9368 : Seg) (ho9369 : ownS Gx.encS x9364 p9366 c9367 sg9368) (hA : ∀ q ∈ List.flatten [sg9368], w.heap[q.1]? = some q.2) (hN : (idsOf [sg9368]).Nodup) {r : (List ByteArray)} (hm : M.slices_Sort_70 x9364 = some r) :
    Calls Try.prog 70 #[.slice p9366 x9364.length c9367] w fun e w' => ∃ (sg9370 : Seg), e = .returned (.tuple #[]) ∧ ownS Gx.encS r p9366 c9367 sg9370 ∧ r.length = x9364.length ∧ Mem (idsOf [sg9368]) w w' [sg9370] := by
  unfold M.slices_Sort_70 at hm
  rcases gx_bif hm with ⟨h, hm⟩ | ⟨h, hm⟩
  · obtain rfl := Option.some.inj hm
    exact sortS_run Try.slices_Sort_string Try.slices_Sort_string_none w x9364 p9366 c9367 sg9368 ho9369 hA hN (of_decide_eq_true h)
  cases hm
theorem c_slices_Compact_71 (w : World) (x9398 : List ByteArray) (p9400 : Option Addr) (c9401 : Nat) (sg9402 : Seg) (ho9403 : ownS Gx.encS x9398 p9400 c9401 sg9402) (hA : ∀ q ∈ List.flatten [sg9402], w.heap[q.1]? = some q.2) (hN : (idsOf [sg9402]).Nodup) {r : (List ByteArray) × (List ByteArray)} (hm : M.slices_Compact_71 x9398 = some r) :
    Calls Try.prog 71 #[.slice p9400 x9398.length c9401] w fun e w' => ∃ (sg9404 : Seg), ∃ (p9406 : Option Addr) (c9407 : Nat), e = .returned (.slice p9406 r.1.length c9407) ∧ ownS Gx.encS r.2 p9400 c9401 sg9404 ∧ r.2.length = x9398.length ∧ viewS 1 r.2 p9400 c9401 p9406 c9407 r.1 ∧ Mem (idsOf [sg9402]) w w' [sg9404] := by
  unfold M.slices_Compact_71 at hm
  rcases gx_bif hm with ⟨h, hm⟩ | ⟨h, hm⟩
  · obtain rfl := Option.some.inj hm
    exact compS_run Try.slices_Compact_string Try.slices_Compact_string_empty w x9398 p9400 c9401 sg9402 ho9403 hA hN (of_decide_eq_true h)
  cases hm
theorem c_i_CountKinds_1 (w : World) (x9509 : Event) (x9510 : ByteArray) (b9511 : Nat) (hb9512 : w.heap[b9511]? = some (.cells ⟨[.string x9510]⟩ 9 (0, 0))) {r : Bool} (hm : M.i_CountKinds_1 x9509 x9510 = some r) :
    Calls Try.prog 72 #[.agg #[.int .i64 x9509.Tick, .int .i64 x9509.Guest, .string x9509.Kind, .int .i64 x9509.Value], .pointer (some ⟨b9511, 0, none⟩)] w fun e w' => e = .returned (.bool r) ∧ Mem [] w w' [] := by
  unfold M.i_CountKinds_1 at hm
  refine C_enter Try.func72 rfl (by kernel_rfl) ?_
  have M0 := Mem.refl [] w
  refine G_seq ?_
  refine G_region ?_
  refine W_new (fun b => .pointer (some ⟨b, 0, none⟩)) (.cells ⟨[.int .i64 x9509.Tick, .int .i64 x9509.Guest, .string x9509.Kind, .int .i64 x9509.Value]⟩ 26 (0, 0)) M0 rfl (by kernel_rfl) (by kernel_rfl) ?_
  intro b9515 w9516 M9517
  refine W_run 1 [(1, .pointer (some ⟨b9511, 0, none⟩)), (2, .pointer (some ⟨b9515, 0, none⟩))] w9516 (by kernel_rfl) ?_
  refine W_nil ?_
  refine N_then ?_
  refine G_seq ?_
  refine G_region ?_
  refine W_run 1 [(1, .pointer (some ⟨b9511, 0, none⟩)), (4, .pointer (some ⟨b9515, 2, none⟩))] w9516 (by kernel_rfl) ?_
  refine W_val (.string x9509.Kind) w9516 (by kernel_rfl) (E_load (e := 26) (fr := (0, 0)) _ _ false 1 b9515 2 [.int .i64 x9509.Tick, .int .i64 x9509.Guest, .string x9509.Kind, .int .i64 x9509.Value] (.string x9509.Kind) rfl (by kernel_rfl) (by kernel_rfl) (by kernel_rfl) (M9517.blk 0 (b := b9515) (o := .cells ⟨[.int .i64 x9509.Tick, .int .i64 x9509.Guest, .string x9509.Kind, .int .i64 x9509.Value]⟩ 26 (0, 0)) (by kernel_rfl))) ?_
  refine W_val (.string x9510) w9516 (by kernel_rfl) (E_load (e := 9) (fr := (0, 0)) _ _ false 1 b9511 0 [.string x9510] (.string x9510) rfl (by kernel_rfl) (by kernel_rfl) (by kernel_rfl) (M9517.ro hb9512)) ?_
  refine W_run 2 [(3, .bool (x9509.Kind.toList == x9510.toList))] w9516 (by kernel_rfl) ?_
  refine W_nil ?_
  refine N_then ?_
  refine G_ret ?_
  obtain rfl := Option.some.inj hm
  refine N_ret [.bool (x9509.Kind.toList == x9510.toList)] (RVs_cons (RV_tmp (by kernel_rfl)) RVs_nil) ?_
  exact ⟨rfl, M9517.pick [] (by kernel_rfl)⟩
theorem c_i_eventsWhere_1__i_CountKinds_1 (w : World) (x9497 : Event) (x9498 : ByteArray) (b9499 : Nat) (hb9500 : w.heap[b9499]? = some (.cells ⟨[.string x9498]⟩ 9 (0, 0))) (b9502 : Nat) (hb9503 : w.heap[b9502]? = some (.cells ⟨[.func (.func 72) #[] #[.pointer (some ⟨b9499, 0, none⟩)]]⟩ 25 (0, 0))) {r : Bool} (hm : M.i_eventsWhere_1__i_CountKinds_1 x9497 x9498 = some r) :
    Calls Try.prog 82 #[.agg #[.int .i64 x9497.Tick, .int .i64 x9497.Guest, .string x9497.Kind, .int .i64 x9497.Value], .pointer (some ⟨b9502, 0, none⟩)] w fun e w' => e = .returned (.bool r) ∧ Mem [] w w' [] := by
  unfold M.i_eventsWhere_1__i_CountKinds_1 at hm
  refine C_enter Try.func82 rfl (by kernel_rfl) ?_
  have M0 := Mem.refl [] w
  refine G_seq ?_
  refine G_region ?_
  refine W_new (fun b => .pointer (some ⟨b, 0, none⟩)) (.cells ⟨[.int .i64 x9497.Tick, .int .i64 x9497.Guest, .string x9497.Kind, .int .i64 x9497.Value]⟩ 26 (0, 0)) M0 rfl (by kernel_rfl) (by kernel_rfl) ?_
  intro b9506 w9507 M9508
  refine W_run 1 [(1, .pointer (some ⟨b9502, 0, none⟩)), (2, .pointer (some ⟨b9506, 0, none⟩))] w9507 (by kernel_rfl) ?_
  refine W_nil ?_
  refine N_then ?_
  refine G_seq ?_
  refine G_region ?_
  refine W_val (.func (.func 72) #[] #[.pointer (some ⟨b9499, 0, none⟩)]) w9507 (by kernel_rfl) (E_load (e := 25) (fr := (0, 0)) _ _ false 1 b9502 0 [.func (.func 72) #[] #[.pointer (some ⟨b9499, 0, none⟩)]] (.func (.func 72) #[] #[.pointer (some ⟨b9499, 0, none⟩)]) rfl (by kernel_rfl) (by kernel_rfl) (by kernel_rfl) (M9508.ro hb9503)) ?_
  refine W_val (.agg #[.int .i64 x9497.Tick, .int .i64 x9497.Guest, .string x9497.Kind, .int .i64 x9497.Value]) w9507 (by kernel_rfl) (E_load (e := 26) (fr := (0, 0)) _ _ true 4 b9506 0 [.int .i64 x9497.Tick, .int .i64 x9497.Guest, .string x9497.Kind, .int .i64 x9497.Value] (.agg #[.int .i64 x9497.Tick, .int .i64 x9497.Guest, .string x9497.Kind, .int .i64 x9497.Value]) rfl (by kernel_rfl) (by kernel_rfl) (by kernel_rfl) (M9508.blk 0 (b := b9506) (o := .cells ⟨[.int .i64 x9497.Tick, .int .i64 x9497.Guest, .string x9497.Kind, .int .i64 x9497.Value]⟩ 26 (0, 0)) (by kernel_rfl))) ?_
  obtain ⟨r9518, hr9518, hm⟩ := gx_bind hm
  refine W_call 72 #[.agg #[.int .i64 x9497.Tick, .int .i64 x9497.Guest, .string x9497.Kind, .int .i64 x9497.Value], .pointer (some ⟨b9499, 0, none⟩)] (by kernel_rfl) (by kernel_rfl) ?_
  refine (c_i_CountKinds_1 w9507 x9497 x9498 b9499 (M9508.ro hb9500) hr9518).mono ?_
  rintro e_ w9519 ⟨rfl, K9520⟩
  have M9521 := M9508.call0 K9520
  refine ⟨_, rfl, ?_⟩
  refine W_run 2 [(3, .bool (!r9518))] w9519 (by kernel_rfl) ?_
  refine W_nil ?_
  refine N_then ?_
  refine G_ret ?_
  obtain rfl := Option.some.inj hm
  refine N_ret [.bool (!r9518)] (RVs_cons (RV_tmp (by kernel_rfl)) RVs_nil) ?_
  exact ⟨rfl, M9521.pick [] (by kernel_rfl)⟩
theorem c_slices_IndexFunc_59__i_eventsWhere_1__i_CountKinds_1 (w : World) (x9483 : List Event) (p9485 : Option Addr) (c9486 : Nat) (h9487 : rdS encEvent w x9483 p9485 c9486) (x9488 : ByteArray) (b9489 : Nat) (hb9490 : w.heap[b9489]? = some (.cells ⟨[.string x9488]⟩ 9 (0, 0))) (b9492 : Nat) (hb9493 : w.heap[b9492]? = some (.cells ⟨[.func (.func 72) #[] #[.pointer (some ⟨b9489, 0, none⟩)]]⟩ 25 (0, 0))) {r : Int} (hm : M.slices_IndexFunc_59__i_eventsWhere_1__i_CountKinds_1 x9483 x9488 = some r) :
    Calls Try.prog 59 #[.slice p9485 x9483.length c9486, .func (.func 82) #[] #[.pointer (some ⟨b9492, 0, none⟩)]] w fun e w' => e = .returned (.int .i64 r) ∧ Mem [] w w' [] := by
  unfold M.slices_IndexFunc_59__i_eventsWhere_1__i_CountKinds_1 at hm
  refine C_enter Try.func59 rfl (by kernel_rfl) ?_
  have M0 := Mem.refl [] w
  refine G_seq ?_
  refine G_region ?_
  refine W_run 1 [(0, .slice p9485 x9483.length c9486), (1, .func (.func 82) #[] #[.pointer (some ⟨b9492, 0, none⟩)])] w (by kernel_rfl) ?_
  refine W_nil ?_
  refine N_then ?_
  refine G_seq ?_
  refine G_seq ?_
  refine G_region ?_
  refine W_run 3 [(0, .slice p9485 x9483.length c9486), (1, .func (.func 82) #[] #[.pointer (some ⟨b9492, 0, none⟩)]), (7, .int .i64 (x9483.length : Int)), (8, .int .i64 0)] w (by kernel_rfl) ?_
  refine W_nil ?_
  refine N_then ?_
  obtain ⟨out9541, hw9542, hmo9543⟩ := gx_bind hm
  refine G_meet (fun a w' => ∃ (o9544 : Unit), out9541 = .inl o9544 ∧ Mem [] w w' [] ∧ Sat Try.f59.ntmps [] a) ?_ ?_
  · refine G_block ?_
    refine G_while (σ := Int) (ρ := (Unit) ⊕ (Int)) (fun s9534 a w' => Mem [] w w' [] ∧ Sat Try.f59.ntmps [(0, .slice p9485 x9483.length c9486), (1, .func (.func 82) #[] #[.pointer (some ⟨b9492, 0, none⟩)]), (7, .int .i64 (x9483.length : Int)), (8, .int .i64 s9534)] a) hw9542 (fun a ha => ⟨M0.pick [] (by kernel_rfl), ha.sub (by kernel_rfl)⟩) ?_
    clear hm
    intro s9534 x9535 hm hout9536 a9537 w9538 ⟨M9539, hS9540⟩
    refine G_use hS9540 ?_
    refine G_seq ?_
    refine G_region ?_
    refine W_run 1 [(0, .slice p9485 x9483.length c9486), (1, .func (.func 82) #[] #[.pointer (some ⟨b9492, 0, none⟩)]), (7, .int .i64 (x9483.length : Int)), (8, .int .i64 s9534), (9, .bool (decide (s9534 < (x9483.length : Int))))] w9538 (by kernel_rfl) ?_
    refine W_nil ?_
    refine N_then ?_
    refine G_seq ?_
    rcases gx_bif hm with ⟨hc9545, hm⟩ | ⟨hc9545, hm⟩
    · refine G_cond_t (b := (decide (s9534 < (x9483.length : Int)))) hc9545 (by kernel_rfl) ?_
      refine G_skip ?_
      refine N_then ?_
      refine G_seq ?_
      refine G_block ?_
      refine G_seq ?_
      refine G_region ?_
      refine W_run 2 [(0, .slice p9485 x9483.length c9486), (1, .func (.func 82) #[] #[.pointer (some ⟨b9492, 0, none⟩)]), (5, .int .i64 s9534), (7, .int .i64 (x9483.length : Int)), (8, .int .i64 s9534)] w9538 (by kernel_rfl) ?_
      refine W_nil ?_
      refine N_then ?_
      refine G_seq ?_
      refine G_region ?_
      refine W_run 3 [(0, .slice p9485 x9483.length c9486), (1, .func (.func 82) #[] #[.pointer (some ⟨b9492, 0, none⟩)]), (5, .int .i64 s9534), (7, .int .i64 (x9483.length : Int)), (8, .int .i64 s9534), (11, .func (.func 82) #[] #[.pointer (some ⟨b9492, 0, none⟩)]), (12, .slice p9485 x9483.length c9486), (13, .int .i64 s9534)] w9538 (by kernel_rfl) ?_
      obtain ⟨y9546, hy9546, hm⟩ := gx_bind hm
      refine W_val (elemP p9485 (s9534.toNat * 4)) w9538 (by kernel_rfl) (E_index (E := encEvent) _ _ _ x9483.length c9486 .i64 s9534 4 (y := y9546) rfl (by kernel_rfl) (by kernel_rfl) (by kernel_rfl) (h9487.mem0 M9539) rfl hy9546) ?_
      refine W_val (.agg #[.int .i64 y9546.Tick, .int .i64 y9546.Guest, .string y9546.Kind, .int .i64 y9546.Value]) w9538 (by kernel_rfl) (E_loadE (E := encEvent) _ _ true 4 s9534 0 (s9534.toNat * 4) y9546 (.agg #[.int .i64 y9546.Tick, .int .i64 y9546.Guest, .string y9546.Kind, .int .i64 y9546.Value]) rfl (by kernel_rfl) (by kernel_rfl) (by kernel_rfl) (h9487.mem0 M9539) hy9546 rfl) ?_
      obtain ⟨r9547, hr9547, hm⟩ := gx_bind hm
      refine W_call 82 #[.agg #[.int .i64 y9546.Tick, .int .i64 y9546.Guest, .string y9546.Kind, .int .i64 y9546.Value], .pointer (some ⟨b9492, 0, none⟩)] (by kernel_rfl) (by kernel_rfl) ?_
      refine (c_i_eventsWhere_1__i_CountKinds_1 w9538 y9546 x9488 b9489 (M9539.ro hb9490) b9492 (M9539.ro hb9493) hr9547).mono ?_
      rintro e_ w9548 ⟨rfl, K9549⟩
      have M9550 := M9539.call0 K9549
      refine ⟨_, rfl, ?_⟩
      refine W_nil ?_
      refine N_then ?_
      rcases gx_bif hm with ⟨hc9551, hm⟩ | ⟨hc9551, hm⟩
      · refine G_cond_t (b := r9547) hc9551 (by kernel_rfl) ?_
        refine G_seq ?_
        refine G_region ?_
        refine W_run 2 [(4, .int .i64 s9534)] w9548 (by kernel_rfl) ?_
        refine W_nil ?_
        refine N_then ?_
        refine G_ret ?_
        refine N_block_ret ?_
        refine N_then_ret ?_
        refine N_then_ret ?_
        obtain rfl := Option.some.inj hm
        obtain rfl := hout9536 _ rfl
        have hm := hmo9543; simp only [Sum.elim_inr] at hm
        refine N_block_ret ?_
        refine N_meet_ret ?_
        refine N_then_ret ?_
        obtain rfl := Option.some.inj hm
        refine N_ret [.int .i64 s9534] (RVs_cons (RV_tmp (by kernel_rfl)) RVs_nil) ?_
        exact ⟨rfl, M9550.pick [] (by kernel_rfl)⟩
      refine G_cond_f (b := r9547) hc9551 (by kernel_rfl) ?_
      refine G_skip ?_
      refine N_block ?_
      refine N_then ?_
      refine G_region ?_
      refine W_run 2 [(0, .slice p9485 x9483.length c9486), (1, .func (.func 82) #[] #[.pointer (some ⟨b9492, 0, none⟩)]), (7, .int .i64 (x9483.length : Int)), (8, .int .i64 (w64 (s9534 + 1)))] w9548 (by kernel_rfl) ?_
      refine W_nil ?_
      obtain rfl := Option.some.inj hm
      exact N_loop fun a ha => ⟨_, rfl, M9550.pick [] (by kernel_rfl), ha.sub (by kernel_rfl)⟩
    refine G_cond_f (b := (decide (s9534 < (x9483.length : Int)))) hc9545 (by kernel_rfl) ?_
    refine G_exit ?_
    refine N_then_exit ?_
    refine N_then_exit ?_
    refine N_block_eq ?_
    obtain rfl := Option.some.inj hm
    obtain rfl := hout9536 _ rfl
    exact N_meet fun a ha => ⟨_, rfl, M9539.pick [] (by kernel_rfl), ha.sub (by kernel_rfl)⟩
  intro a9552 w9553 ⟨o9544, hout_, M9554, hS9555⟩
  refine N_use hS9555 ?_
  subst hout_
  have hm := hmo9543; simp only [Sum.elim_inl] at hm
  refine N_then ?_
  refine G_seq ?_
  refine G_region ?_
  refine W_run 1 [(4, .int .i64 (-1))] w9553 (by kernel_rfl) ?_
  refine W_nil ?_
  refine N_then ?_
  refine G_ret ?_
  obtain rfl := Option.some.inj hm
  refine N_ret [.int .i64 (-1)] (RVs_cons (RV_tmp (by kernel_rfl)) RVs_nil) ?_
  exact ⟨rfl, M9554.pick [] (by kernel_rfl)⟩
theorem c_slices_DeleteFunc_81__i_eventsWhere_1__i_CountKinds_1 (w : World) (x9463 : List Event) (p9465 : Option Addr) (c9466 : Nat) (sg9467 : Seg) (ho9468 : ownS encEvent x9463 p9465 c9466 sg9467) (x9469 : ByteArray) (b9470 : Nat) (hb9471 : w.heap[b9470]? = some (.cells ⟨[.string x9469]⟩ 9 (0, 0))) (b9474 : Nat) (hb9475 : w.heap[b9474]? = some (.cells ⟨[.func (.func 72) #[] #[.pointer (some ⟨b9470, 0, none⟩)]]⟩ 25 (0, 0))) (hA : ∀ q ∈ List.flatten [sg9467], w.heap[q.1]? = some q.2) (hN : (idsOf [sg9467]).Nodup) (nf9473 : b9470 ∉ (idsOf [sg9467])) (nf9477 : b9474 ∉ (idsOf [sg9467])) {r : (List Event) × (List Event)} (hm : M.slices_DeleteFunc_81__i_eventsWhere_1__i_CountKinds_1 x9463 x9469 = some r) :
    Calls Try.prog 81 #[.slice p9465 x9463.length c9466, .func (.func 82) #[] #[.pointer (some ⟨b9474, 0, none⟩)]] w fun e w' => ∃ (sg9478 : Seg), ∃ (p9480 : Option Addr) (c9481 : Nat), e = .returned (.slice p9480 r.1.length c9481) ∧ ownS encEvent r.2 p9465 c9466 sg9478 ∧ r.2.length = x9463.length ∧ viewS 4 r.2 p9465 c9466 p9480 c9481 r.1 ∧ Mem (idsOf [sg9467]) w w' [sg9478] := by
  unfold M.slices_DeleteFunc_81__i_eventsWhere_1__i_CountKinds_1 at hm
  refine C_enter Try.func81 rfl (by kernel_rfl) ?_
  have M0 := Mem.start' w [sg9467] hA hN
  refine G_seq ?_
  refine G_region ?_
  refine W_run 1 [(0, .slice p9465 x9463.length c9466), (1, .func (.func 82) #[] #[.pointer (some ⟨b9474, 0, none⟩)])] w (by kernel_rfl) ?_
  refine W_nil ?_
  refine N_then ?_
  refine G_seq ?_
  refine G_region ?_
  refine W_run 2 [(0, .slice p9465 x9463.length c9466), (1, .func (.func 82) #[] #[.pointer (some ⟨b9474, 0, none⟩)]), (8, .slice p9465 x9463.length c9466), (9, .func (.func 82) #[] #[.pointer (some ⟨b9474, 0, none⟩)])] w (by kernel_rfl) ?_
  obtain ⟨r9556, hr9556, hm⟩ := gx_bind hm
  refine W_call 59 #[.slice p9465 x9463.length c9466, .func (.func 82) #[] #[.pointer (some ⟨b9474, 0, none⟩)]] (by kernel_rfl) (by kernel_rfl) ?_
  refine (c_slices_IndexFunc_59__i_eventsWhere_1__i_CountKinds_1 w x9463 p9465 c9466 (ho9468.rd M0 0 (by kernel_rfl)) x9469 b9470 (M0.roX hb9471 nf9473) b9474 (M0.roX hb9475 nf9477) hr9556).mono ?_
  rintro e_ w9557 ⟨rfl, K9558⟩
  have M9559 := M0.call0 K9558
  refine ⟨_, rfl, ?_⟩
  refine W_run 1 [(0, .slice p9465 x9463.length c9466), (1, .func (.func 82) #[] #[.pointer (some ⟨b9474, 0, none⟩)]), (5, .int .i64 r9556)] w9557 (by kernel_rfl) ?_
  refine W_nil ?_
  refine N_then ?_
  refine G_seq ?_
  refine G_seq ?_
  refine G_region ?_
  refine W_run 2 [(0, .slice p9465 x9463.length c9466), (1, .func (.func 82) #[] #[.pointer (some ⟨b9474, 0, none⟩)]), (5, .int .i64 r9556), (12, .bool (r9556 == (-1)))] w9557 (by kernel_rfl) ?_
  refine W_nil ?_
  refine N_then ?_
  rcases gx_bif hm with ⟨hc9560, hm⟩ | ⟨hc9560, hm⟩
  · refine G_cond_t (b := (r9556 == (-1))) hc9560 (by kernel_rfl) ?_
    refine G_seq ?_
    refine G_region ?_
    refine W_run 2 [(4, .slice p9465 x9463.length c9466)] w9557 (by kernel_rfl) ?_
    refine W_nil ?_
    refine N_then ?_
    refine G_ret ?_
    refine N_then_ret ?_
    obtain rfl := Option.some.inj hm
    refine N_ret [.slice p9465 x9463.length c9466] (RVs_cons (RV_tmp (by kernel_rfl)) RVs_nil) ?_
    exact ⟨sg9467, p9465, c9466, rfl, ho9468, rfl, (viewS_self ho9468), M9559.pick [0] (by kernel_rfl)⟩
  refine G_cond_f (b := (r9556 == (-1))) hc9560 (by kernel_rfl) ?_
  refine G_skip ?_
  refine N_then ?_
  refine G_seq ?_
  refine G_seq ?_
  refine G_region ?_
  refine W_run 3 [(0, .slice p9465 x9463.length c9466), (1, .func (.func 82) #[] #[.pointer (some ⟨b9474, 0, none⟩)]), (5, .int .i64 r9556), (6, .int .i64 (w64 (r9556 + 1)))] w9557 (by kernel_rfl) ?_
  refine W_nil ?_
  refine N_then ?_
  obtain ⟨out9639, hw9640, hmo9641⟩ := gx_bind hm
  refine G_meet (fun a w' => ∃ (sg9646 : Seg), ownS encEvent out9639.2 p9465 c9466 sg9646 ∧ out9639.2.length = x9463.length ∧ Mem (idsOf [sg9467]) w w' [sg9646] ∧ Sat Try.f81.ntmps [(0, .slice p9465 out9639.2.length c9466), (5, .int .i64 out9639.1)] a) ?_ ?_
  · refine G_block ?_
    refine G_while (σ := Int × Int × List Event) (ρ := Int × List Event) (fun s9632 a w' => ∃ (sg9642 : Seg), ownS encEvent s9632.2.2 p9465 c9466 sg9642 ∧ s9632.2.2.length = x9463.length ∧ Mem (idsOf [sg9467]) w w' [sg9642] ∧ Sat Try.f81.ntmps [(0, .slice p9465 s9632.2.2.length c9466), (1, .func (.func 82) #[] #[.pointer (some ⟨b9474, 0, none⟩)]), (5, .int .i64 s9632.1), (6, .int .i64 s9632.2.1)] a) hw9640 (fun a ha => ⟨sg9467, ho9468, rfl, M9559.pick [0] (by kernel_rfl), ha.sub (by kernel_rfl)⟩) ?_
    clear hm
    intro s9632 x9633 hm hout9634 a9635 w9636 ⟨sg9642, ho9643, hl9644, M9637, hS9638⟩
    refine G_use hS9638 ?_
    refine G_seq ?_
    refine G_seq ?_
    refine G_region ?_
    refine W_run 4 [(0, .slice p9465 s9632.2.2.length c9466), (1, .func (.func 82) #[] #[.pointer (some ⟨b9474, 0, none⟩)]), (5, .int .i64 s9632.1), (6, .int .i64 s9632.2.1), (19, .bool (decide (s9632.2.1 < (s9632.2.2.length : Int))))] w9636 (by kernel_rfl) ?_
    refine W_nil ?_
    refine N_then ?_
    rcases gx_bif hm with ⟨hc9649, hm⟩ | ⟨hc9649, hm⟩
    · refine G_cond_t (b := (decide (s9632.2.1 < (s9632.2.2.length : Int)))) hc9649 (by kernel_rfl) ?_
      refine G_skip ?_
      refine N_then ?_
      refine G_seq ?_
      refine G_block ?_
      refine G_seq ?_
      refine G_region ?_
      refine W_run 2 [(0, .slice p9465 s9632.2.2.length c9466), (1, .func (.func 82) #[] #[.pointer (some ⟨b9474, 0, none⟩)]), (5, .int .i64 s9632.1), (6, .int .i64 s9632.2.1), (22, .slice p9465 s9632.2.2.length c9466), (23, .int .i64 s9632.2.1)] w9636 (by kernel_rfl) ?_
      obtain ⟨y9650, hy9650, hm⟩ := gx_bind hm
      refine W_val (elemP p9465 (s9632.2.1.toNat * 4)) w9636 (by kernel_rfl) (E_index (E := encEvent) _ _ _ s9632.2.2.length c9466 .i64 s9632.2.1 4 (y := y9650) rfl (by kernel_rfl) (by kernel_rfl) (by kernel_rfl) (ho9643.rd M9637 0 (by kernel_rfl)) rfl hy9650) ?_
      refine W_val (.agg #[.int .i64 y9650.Tick, .int .i64 y9650.Guest, .string y9650.Kind, .int .i64 y9650.Value]) w9636 (by kernel_rfl) (E_loadE (E := encEvent) _ _ true 4 s9632.2.1 0 (s9632.2.1.toNat * 4) y9650 (.agg #[.int .i64 y9650.Tick, .int .i64 y9650.Guest, .string y9650.Kind, .int .i64 y9650.Value]) rfl (by kernel_rfl) (by kernel_rfl) (by kernel_rfl) (ho9643.rd M9637 0 (by kernel_rfl)) hy9650 rfl) ?_
      refine W_new (fun b => .pointer (some ⟨b, 0, none⟩)) (.cells ⟨[.int .i64 0, .int .i64 0, .string ByteArray.empty, .int .i64 0]⟩ 26 (0, 0)) M9637 rfl (by kernel_rfl) (by kernel_rfl) ?_
      intro b9652 w9653 M9654
      refine W_store _ _ _ true 4 b9652 0 [.int .i64 0, .int .i64 0, .string ByteArray.empty, .int .i64 0] 26 (.agg #[.int .i64 y9650.Tick, .int .i64 y9650.Guest, .string y9650.Kind, .int .i64 y9650.Value]) 1 [.int .i64 y9650.Tick, .int .i64 y9650.Guest, .string y9650.Kind, .int .i64 y9650.Value] M9654 (by kernel_rfl) rfl (by kernel_rfl) (by kernel_rfl) (by kernel_rfl) (by kernel_rfl) (by kernel_rfl) (by kernel_rfl) (by kernel_rfl) (by kernel_rfl) ?_
      intro w9655 M9656
      refine W_nil ?_
      refine N_then ?_
      refine G_seq ?_
      refine G_region ?_
      refine W_run 1 [(0, .slice p9465 s9632.2.2.length c9466), (1, .func (.func 82) #[] #[.pointer (some ⟨b9474, 0, none⟩)]), (5, .int .i64 s9632.1), (6, .int .i64 s9632.2.1), (7, .pointer (some ⟨b9652, 0, none⟩)), (26, .func (.func 82) #[] #[.pointer (some ⟨b9474, 0, none⟩)])] w9655 (by kernel_rfl) ?_
      refine W_val (.agg #[.int .i64 y9650.Tick, .int .i64 y9650.Guest, .string y9650.Kind, .int .i64 y9650.Value]) w9655 (by kernel_rfl) (E_load (e := 26) (fr := (0, 0)) _ _ true 4 b9652 0 [.int .i64 y9650.Tick, .int .i64 y9650.Guest, .string y9650.Kind, .int .i64 y9650.Value] (.agg #[.int .i64 y9650.Tick, .int .i64 y9650.Guest, .string y9650.Kind, .int .i64 y9650.Value]) rfl (by kernel_rfl) (by kernel_rfl) (by kernel_rfl) (M9656.blk 1 (b := b9652) (o := .cells ⟨[.int .i64 y9650.Tick, .int .i64 y9650.Guest, .string y9650.Kind, .int .i64 y9650.Value]⟩ 26 (0, 0)) (by kernel_rfl))) ?_
      obtain ⟨r9657, hr9657, hm⟩ := gx_bind hm
      refine W_call 82 #[.agg #[.int .i64 y9650.Tick, .int .i64 y9650.Guest, .string y9650.Kind, .int .i64 y9650.Value], .pointer (some ⟨b9474, 0, none⟩)] (by kernel_rfl) (by kernel_rfl) ?_
      refine (c_i_eventsWhere_1__i_CountKinds_1 w9655 y9650 x9469 b9470 (M9656.roX hb9471 nf9473) b9474 (M9656.roX hb9475 nf9477) hr9657).mono ?_
      rintro e_ w9658 ⟨rfl, K9659⟩
      have M9660 := M9656.call0 K9659
      refine ⟨_, rfl, ?_⟩
      refine W_run 1 [(0, .slice p9465 s9632.2.2.length c9466), (1, .func (.func 82) #[] #[.pointer (some ⟨b9474, 0, none⟩)]), (5, .int .i64 s9632.1), (6, .int .i64 s9632.2.1), (7, .pointer (some ⟨b9652, 0, none⟩)), (29, .bool (!r9657))] w9658 (by kernel_rfl) ?_
      refine W_nil ?_
      refine N_then ?_
      obtain ⟨o9667, ho9668, hm9669⟩ := gx_bind hm
      refine G_meet (fun a w' => ∃ (sg9670 : Seg), ownS encEvent o9667.2 p9465 c9466 sg9670 ∧ o9667.2.length = x9463.length ∧ Mem (idsOf [sg9467]) w w' [sg9670] ∧ Sat Try.f81.ntmps [(0, .slice p9465 o9667.2.length c9466), (1, .func (.func 82) #[] #[.pointer (some ⟨b9474, 0, none⟩)]), (5, .int .i64 o9667.1), (6, .int .i64 s9632.2.1)] a) ?_ ?_
      · have hm := ho9668
        rcases gx_bif hm with ⟨hc9673, hm⟩ | ⟨hc9673, hm⟩
        · refine G_cond_t (b := (!r9657)) hc9673 (by kernel_rfl) ?_
          refine G_seq ?_
          refine G_region ?_
          refine W_run 2 [(0, .slice p9465 s9632.2.2.length c9466), (1, .func (.func 82) #[] #[.pointer (some ⟨b9474, 0, none⟩)]), (5, .int .i64 s9632.1), (6, .int .i64 s9632.2.1), (7, .pointer (some ⟨b9652, 0, none⟩)), (30, .slice p9465 s9632.2.2.length c9466), (31, .int .i64 s9632.1)] w9658 (by kernel_rfl) ?_
          refine W_val (.agg #[.int .i64 y9650.Tick, .int .i64 y9650.Guest, .string y9650.Kind, .int .i64 y9650.Value]) w9658 (by kernel_rfl) (E_load (e := 26) (fr := (0, 0)) _ _ true 4 b9652 0 [.int .i64 y9650.Tick, .int .i64 y9650.Guest, .string y9650.Kind, .int .i64 y9650.Value] (.agg #[.int .i64 y9650.Tick, .int .i64 y9650.Guest, .string y9650.Kind, .int .i64 y9650.Value]) rfl (by kernel_rfl) (by kernel_rfl) (by kernel_rfl) (M9660.blk 1 (b := b9652) (o := .cells ⟨[.int .i64 y9650.Tick, .int .i64 y9650.Guest, .string y9650.Kind, .int .i64 y9650.Value]⟩ 26 (0, 0)) (by kernel_rfl))) ?_
          obtain ⟨y9674, hy9674, hm⟩ := gx_bind hm
          refine W_val (elemP p9465 (s9632.1.toNat * 4)) w9658 (by kernel_rfl) (E_index (E := encEvent) _ _ _ s9632.2.2.length c9466 .i64 s9632.1 4 (y := y9674) rfl (by kernel_rfl) (by kernel_rfl) (by kernel_rfl) (ho9643.rd M9660 0 (by kernel_rfl)) rfl hy9674) ?_
          refine W_storeE (E := encEvent) _ _ _ true 4 s9632.1.toNat 0 (s9632.1.toNat * 4) y9674 y9650 (.agg #[.int .i64 y9650.Tick, .int .i64 y9650.Guest, .string y9650.Kind, .int .i64 y9650.Value]) 0 M9660 ho9643 (by kernel_rfl) (by kernel_rfl) rfl (by kernel_rfl) (by kernel_rfl) (by kernel_rfl) (by kernel_rfl) (by kernel_rfl) (by kernel_rfl) (by kernel_rfl) (gxIdx_spec hy9674).2 rfl ?_
          intro w9675 sg9677 ho9678 M9676
          refine W_conv 0 (.slice p9465 s9632.2.2.length c9466) (.slice p9465 (s9632.2.2.set s9632.1.toNat y9650).length c9466) (by kernel_rfl) (by rw [@List.length_set _ s9632.2.2 s9632.1.toNat y9650]) ?_
          refine W_conv 30 (.slice p9465 s9632.2.2.length c9466) (.slice p9465 (s9632.2.2.set s9632.1.toNat y9650).length c9466) (by kernel_rfl) (by rw [@List.length_set _ s9632.2.2 s9632.1.toNat y9650]) ?_
          refine W_nil ?_
          refine N_then ?_
          refine G_region ?_
          refine W_run 3 [(0, .slice p9465 (s9632.2.2.set s9632.1.toNat y9650).length c9466), (1, .func (.func 82) #[] #[.pointer (some ⟨b9474, 0, none⟩)]), (5, .int .i64 (w64 (s9632.1 + 1))), (6, .int .i64 s9632.2.1)] w9675 (by kernel_rfl) ?_
          refine W_nil ?_
          obtain rfl := Option.some.inj hm
          exact N_meet fun a ha => ⟨sg9677, ho9678, (List.length_set.trans hl9644), M9676.pick [0] (by kernel_rfl), ha.sub (by kernel_rfl)⟩
        refine G_cond_f (b := (!r9657)) hc9673 (by kernel_rfl) ?_
        refine G_skip ?_
        obtain rfl := Option.some.inj hm
        exact N_meet fun a ha => ⟨sg9642, ho9643, hl9644, M9660.pick [0] (by kernel_rfl), ha.sub (by kernel_rfl)⟩
      intro a9681 w9679 ⟨sg9670, ho9671, hl9672, M9680, hS9682⟩
      refine N_use hS9682 ?_
      have hm := hm9669
      refine N_block ?_
      refine N_then ?_
      refine G_region ?_
      refine W_run 3 [(0, .slice p9465 o9667.2.length c9466), (1, .func (.func 82) #[] #[.pointer (some ⟨b9474, 0, none⟩)]), (5, .int .i64 o9667.1), (6, .int .i64 (w64 (s9632.2.1 + 1)))] w9679 (by kernel_rfl) ?_
      refine W_nil ?_
      obtain rfl := Option.some.inj hm
      exact N_loop fun a ha => ⟨_, rfl, sg9670, ho9671, hl9672, M9680.pick [0] (by kernel_rfl), ha.sub (by kernel_rfl)⟩
    refine G_cond_f (b := (decide (s9632.2.1 < (s9632.2.2.length : Int)))) hc9649 (by kernel_rfl) ?_
    refine G_exit ?_
    refine N_then_exit ?_
    refine N_then_exit ?_
    refine N_block_eq ?_
    obtain rfl := Option.some.inj hm
    obtain rfl := hout9634 _ rfl
    exact N_meet fun a ha => ⟨sg9642, ho9643, hl9644, M9637.pick [0] (by kernel_rfl), ha.sub (by kernel_rfl)⟩
  intro a9683 w9684 ⟨sg9646, ho9647, hl9648, M9685, hS9686⟩
  refine N_use hS9686 ?_
  have hm := hmo9641
  refine N_then ?_
  refine G_seq ?_
  refine G_region ?_
  refine W_run 2 [(0, .slice p9465 out9639.2.length c9466), (5, .int .i64 out9639.1), (36, .slice p9465 out9639.2.length c9466), (37, .int .i64 out9639.1)] w9684 (by kernel_rfl) ?_
  obtain ⟨ys9687, hys9687, hm⟩ := gx_bind hm
  refine W_val (.slice (subP p9465 out9639.1.toNat c9466 4) ys9687.length (c9466 - out9639.1.toNat)) w9684 (by kernel_rfl) (E_slice (E := encEvent) _ _ _ _ out9639.2.length out9639.1 (out9639.2.length : Int) rfl (by kernel_rfl) (Or.inr ⟨_, rfl, by kernel_rfl⟩) (Or.inl ⟨rfl, rfl⟩) (by kernel_rfl) (ho9647.rd M9685 0 (by kernel_rfl)) rfl hys9687) ?_
  refine W_clear (E := encEvent) _ _ out9639.1 (out9639.2.length : Int) 40 [.int .i64 0, .int .i64 0, .string ByteArray.empty, .int .i64 0] ((⟨0, 0, ByteArray.empty, 0⟩ : Event) : Event) 0 M9685 ho9647 (by kernel_rfl) (by kernel_rfl) (by kernel_rfl) rfl (by kernel_rfl) hys9687 (by kernel_rfl) (by kernel_rfl) ?_
  intro w9689 sg9691 ho9692 M9690
  refine W_conv 0 (.slice p9465 out9639.2.length c9466) (.slice p9465 (gxClear out9639.2 out9639.1 (out9639.2.length : Int) ((⟨0, 0, ByteArray.empty, 0⟩ : Event) : Event)).length c9466) (by kernel_rfl) (by rw [gxClear_len ((⟨0, 0, ByteArray.empty, 0⟩ : Event) : Event) hys9687]) ?_
  refine W_conv 36 (.slice p9465 out9639.2.length c9466) (.slice p9465 (gxClear out9639.2 out9639.1 (out9639.2.length : Int) ((⟨0, 0, ByteArray.empty, 0⟩ : Event) : Event)).length c9466) (by kernel_rfl) (by rw [gxClear_len ((⟨0, 0, ByteArray.empty, 0⟩ : Event) : Event) hys9687]) ?_
  refine W_nil ?_
  refine N_then ?_
  refine G_seq ?_
  refine G_region ?_
  refine W_run 2 [(39, .slice p9465 (gxClear out9639.2 out9639.1 (out9639.2.length : Int) ((⟨0, 0, ByteArray.empty, 0⟩ : Event) : Event)).length c9466), (40, .int .i64 out9639.1)] w9689 (by kernel_rfl) ?_
  obtain ⟨ys9693, hys9693, hm⟩ := gx_bind hm
  refine W_val (.slice (subP p9465 (0 : Int).toNat c9466 4) ys9693.length (c9466 - (0 : Int).toNat)) w9689 (by kernel_rfl) (E_slice (E := encEvent) _ _ _ _ (gxClear out9639.2 out9639.1 (out9639.2.length : Int) ((⟨0, 0, ByteArray.empty, 0⟩ : Event) : Event)).length 0 out9639.1 rfl (by kernel_rfl) (Or.inl ⟨rfl, rfl⟩) (Or.inr ⟨_, rfl, by kernel_rfl⟩) (by kernel_rfl) (ho9692.rd M9690 0 (by kernel_rfl)) rfl hys9693) ?_
  refine W_run 1 [(4, .slice (subP p9465 (0 : Int).toNat c9466 4) ys9693.length (c9466 - (0 : Int).toNat))] w9689 (by kernel_rfl) ?_
  refine W_nil ?_
  refine N_then ?_
  refine G_ret ?_
  obtain rfl := Option.some.inj hm
  refine N_ret [.slice (subP p9465 (0 : Int).toNat c9466 4) ys9693.length (c9466 - (0 : Int).toNat)] (RVs_cons (RV_tmp (by kernel_rfl)) RVs_nil) ?_
  exact ⟨sg9691, (subP p9465 (0 : Int).toNat c9466 4), (c9466 - (0 : Int).toNat), rfl, ho9692, ((gxClear_len ((⟨0, 0, ByteArray.empty, 0⟩ : Event) : Event) hys9687).trans hl9648), ⟨0, out9639.1, rfl, rfl, hys9693⟩, M9690.pick [0] (by kernel_rfl)⟩
theorem c_i_eventsWhere__i_CountKinds_1 (w : World) (x9430 : List Event) (p9432 : Option Addr) (c9433 : Nat) (h9434 : rdS encEvent w x9430 p9432 c9433) (x9435 : ByteArray) (b9436 : Nat) (hb9437 : w.heap[b9436]? = some (.cells ⟨[.string x9435]⟩ 9 (0, 0))) {r : (List Event)} (hm : M.i_eventsWhere__i_CountKinds_1 x9430 x9435 = some r) :
    Calls Try.prog 62 #[.slice p9432 x9430.length c9433, .func (.func 72) #[] #[.pointer (some ⟨b9436, 0, none⟩)]] w fun e w' => ∃ (p9440 : Option Addr) (c9441 : Nat) (sg9442 : Seg), e = .returned (.slice p9440 r.length c9441) ∧ ownS encEvent r p9440 c9441 sg9442 ∧ Mem [] w w' [sg9442] := by
  unfold M.i_eventsWhere__i_CountKinds_1 at hm
  refine C_enter Try.func62 rfl (by kernel_rfl) ?_
  have M0 := Mem.refl [] w
  refine G_seq ?_
  refine G_region ?_
  refine W_new (fun b => .pointer (some ⟨b, 0, none⟩)) (.cells ⟨[.func (.func 72) #[] #[.pointer (some ⟨b9436, 0, none⟩)]]⟩ 25 (0, 0)) M0 rfl (by kernel_rfl) (by kernel_rfl) ?_
  intro b9444 w9445 M9446
  refine W_run 1 [(0, .slice p9432 x9430.length c9433), (3, .pointer (some ⟨b9444, 0, none⟩))] w9445 (by kernel_rfl) ?_
  refine W_nil ?_
  refine N_then ?_
  refine G_seq ?_
  refine G_region ?_
  refine W_lit (E := encEvent) ([] : List Event) 0 [] 26 M9446 (by kernel_rfl) (by kernel_rfl) (by kernel_rfl) (by kernel_rfl) (by kernel_rfl) ?_
  intro p9448 c9449 sg9450 w9451 ho9452 M9453
  refine W_run 1 [(3, .pointer (some ⟨b9444, 0, none⟩)), (5, .slice p9448 ([] : List Event).length c9449), (6, .slice p9432 x9430.length c9433)] w9451 (by kernel_rfl) ?_
  obtain ⟨ap9455, hap9455, hm⟩ := gx_bind hm
  refine W_append (E := encEvent) _ _ _ 40 [.int .i64 0, .int .i64 0, .string ByteArray.empty, .int .i64 0] 1 c9433 M9453 ho9452 (by kernel_rfl) (by kernel_rfl) (by kernel_rfl) rfl (by kernel_rfl) (by kernel_rfl) (by kernel_rfl) (by kernel_rfl) (by kernel_rfl) (by kernel_rfl) (h9434.mem0 M9453) hap9455 ?_
  intro p9456 c9457 sg9458 w9459 ho9460 M9461
  refine W_run 1 [(7, .slice p9456 ap9455.length c9457), (8, .func (.func 82) #[] #[.pointer (some ⟨b9444, 0, none⟩)])] w9459 (by kernel_rfl) ?_
  obtain ⟨r9695, hr9695, hm⟩ := gx_bind hm
  refine W_call 81 #[.slice p9456 ap9455.length c9457, .func (.func 82) #[] #[.pointer (some ⟨b9444, 0, none⟩)]] (by kernel_rfl) (by kernel_rfl) ?_
  refine (c_slices_DeleteFunc_81__i_eventsWhere_1__i_CountKinds_1 w9459 ap9455 p9456 c9457 sg9458 ho9460 x9435 b9436 (M9461.ro hb9437) b9444 (M9461.blk 0 (b := b9444) (o := .cells ⟨[.func (.func 72) #[] #[.pointer (some ⟨b9436, 0, none⟩)]]⟩ 25 (0, 0)) (by kernel_rfl)) (M9461.hasPick [1]) (M9461.nodupPick [1] (by kernel_rfl)) (blkOld M9461 hb9437 (by simp) [1]) (blkApart M9461 0 (o := .cells ⟨[.func (.func 72) #[] #[.pointer (some ⟨b9436, 0, none⟩)]]⟩ 25 (0, 0)) (by kernel_rfl) [1] (by kernel_rfl)) hr9695).mono ?_
  rintro e_ w9706 ⟨sg9696, p9704, c9705, rfl, ho9697, hl9698, hw9703, K9707⟩
  obtain ⟨l9700, h9701, rfl, rfl, hv9702⟩ := hw9703
  have M9708 := M9461.callF' [1] [0] (by kernel_rfl) K9707
  refine ⟨_, rfl, ?_⟩
  refine W_conv 7 (.slice p9456 ap9455.length c9457) (.slice p9456 r9695.2.length c9457) (by kernel_rfl) (by first | rw [hl9698] | rw [hl9698]) ?_
  refine W_run 1 [(4, .slice (subP p9456 l9700.toNat c9457 4) r9695.1.length (c9457 - l9700.toNat))] w9706 (by kernel_rfl) ?_
  refine W_nil ?_
  refine N_then ?_
  refine G_ret ?_
  obtain rfl := Option.some.inj hm
  refine N_ret [.slice (subP p9456 l9700.toNat c9457 4) r9695.1.length (c9457 - l9700.toNat)] (RVs_cons (RV_tmp (by kernel_rfl)) RVs_nil) ?_
  exact ⟨(subP p9456 l9700.toNat c9457 4), (c9457 - l9700.toNat), sg9696, rfl, (ho9697.partM hv9702), M9708.pick [1] (by kernel_rfl)⟩
theorem c_i_CountKinds (w : World) (x9224 : List Event) (p9226 : Option Addr) (c9227 : Nat) (h9228 : rdS encEvent w x9224 p9226 c9227) {r : (List ByteArray) × (List Int) × Bool} (hm : M.i_CountKinds x9224 = some r) :
    Calls Try.prog 37 #[.slice p9226 x9224.length c9227] w fun e w' => ∃ (p9230 : Option Addr) (c9231 : Nat) (sg9232 : Seg), ∃ (p9234 : Option Addr) (c9235 : Nat) (sg9236 : Seg), e = .returned (.tuple #[.slice p9230 r.1.length c9231, .slice p9234 r.2.1.length c9235, .bool r.2.2]) ∧ ownS Gx.encS r.1 p9230 c9231 sg9232 ∧ ownS Gx.encI r.2.1 p9234 c9235 sg9236 ∧ Mem [] w w' [sg9232, sg9236] := by
  unfold M.i_CountKinds at hm
  refine C_enter Try.func37 rfl (by kernel_rfl) ?_
  have M0 := Mem.refl [] w
  refine G_seq ?_
  refine G_region ?_
  refine W_run 3 [(0, .slice p9226 x9224.length c9227)] w (by kernel_rfl) ?_
  refine W_nil ?_
  refine N_then ?_
  refine G_seq ?_
  refine G_seq ?_
  refine G_region ?_
  refine W_run 1 [(0, .slice p9226 x9224.length c9227), (11, .slice p9226 x9224.length c9227)] w (by kernel_rfl) ?_
  obtain ⟨r9239, hr9239, hm⟩ := gx_bind hm
  refine W_call 20 #[.slice p9226 x9224.length c9227] (by kernel_rfl) (by kernel_rfl) ?_
  refine (c_i_IsRecord w x9224 p9226 c9227 (h9228.mem0 M0) hr9239).mono ?_
  rintro e_ w9240 ⟨rfl, K9241⟩
  have M9242 := M0.call0 K9241
  refine ⟨_, rfl, ?_⟩
  refine W_run 1 [(0, .slice p9226 x9224.length c9227), (13, .bool (!r9239))] w9240 (by kernel_rfl) ?_
  refine W_nil ?_
  refine N_then ?_
  rcases gx_bif hm with ⟨hc9243, hm⟩ | ⟨hc9243, hm⟩
  · refine G_cond_t (b := (!r9239)) hc9243 (by kernel_rfl) ?_
    refine G_seq ?_
    refine G_region ?_
    refine W_run 3 [(2, .slice none 0 0), (3, .slice none 0 0), (4, .bool false)] w9240 (by kernel_rfl) ?_
    refine W_nil ?_
    refine N_then ?_
    refine G_ret ?_
    refine N_then_ret ?_
    obtain rfl := Option.some.inj hm
    refine N_ret [.slice none 0 0, .slice none 0 0, .bool false] (RVs_cons (RV_tmp (by kernel_rfl)) (RVs_cons (RV_tmp (by kernel_rfl)) (RVs_cons (RV_tmp (by kernel_rfl)) RVs_nil))) ?_
    exact ⟨none, 0, [], none, 0, [], rfl, ownS_nil, ownS_nil, M9242.pick [100000, 100001] (by kernel_rfl)⟩
  refine G_cond_f (b := (!r9239)) hc9243 (by kernel_rfl) ?_
  refine G_skip ?_
  refine N_then ?_
  refine G_seq ?_
  refine G_region ?_
  refine W_lit (E := Gx.encS) ([] : List ByteArray) 0 [] 9 M9242 (by kernel_rfl) (by kernel_rfl) (by kernel_rfl) (by kernel_rfl) (by kernel_rfl) ?_
  intro p9246 c9247 sg9248 w9249 ho9250 M9251
  refine W_lit (E := Gx.encI) ([] : List Int) 0 [] 3 M9251 (by kernel_rfl) (by kernel_rfl) (by kernel_rfl) (by kernel_rfl) (by kernel_rfl) ?_
  intro p9253 c9254 sg9255 w9256 ho9257 M9258
  refine W_run 2 [(0, .slice p9226 x9224.length c9227), (5, .slice p9246 ([] : List ByteArray).length c9247), (6, .slice p9253 ([] : List Int).length c9254)] w9256 (by kernel_rfl) ?_
  refine W_nil ?_
  refine N_then ?_
  refine G_seq ?_
  refine G_seq ?_
  refine G_region ?_
  refine W_run 3 [(0, .slice p9226 x9224.length c9227), (5, .slice p9246 ([] : List ByteArray).length c9247), (6, .slice p9253 ([] : List Int).length c9254), (16, .slice p9226 x9224.length c9227), (17, .int .i64 (x9224.length : Int)), (18, .int .i64 0)] w9256 (by kernel_rfl) ?_
  refine W_nil ?_
  refine N_then ?_
  obtain ⟨out9318, hw9319, hmo9320⟩ := gx_bind hm
  refine G_meet (fun a w' => ∃ (p9327 : Option Addr), ∃ (c9328 : Nat), ∃ (sg9329 : Seg), ownS Gx.encS out9318 p9327 c9328 sg9329 ∧ Mem [] w w' [sg9255, sg9329] ∧ Sat Try.f37.ntmps [(0, .slice p9226 x9224.length c9227), (5, .slice p9327 out9318.length c9328), (6, .slice p9253 ([] : List Int).length c9254)] a) ?_ ?_
  · refine G_block ?_
    refine G_while (σ := List ByteArray × Int) (ρ := List ByteArray) (fun s9311 a w' => ∃ (p9321 : Option Addr), ∃ (c9322 : Nat), ∃ (sg9323 : Seg), ownS Gx.encS s9311.1 p9321 c9322 sg9323 ∧ Mem [] w w' [sg9255, sg9323] ∧ Sat Try.f37.ntmps [(0, .slice p9226 x9224.length c9227), (5, .slice p9321 s9311.1.length c9322), (6, .slice p9253 ([] : List Int).length c9254), (16, .slice p9226 x9224.length c9227), (17, .int .i64 (x9224.length : Int)), (18, .int .i64 s9311.2)] a) hw9319 (fun a ha => ⟨p9246, c9247, sg9248, ho9250, M9258.pick [1, 0] (by kernel_rfl), ha.sub (by kernel_rfl)⟩) ?_
    clear hm
    intro s9311 x9312 hm hout9313 a9314 w9315 ⟨p9321, c9322, sg9323, ho9324, M9316, hS9317⟩
    refine G_use hS9317 ?_
    refine G_seq ?_
    refine G_region ?_
    refine W_run 1 [(0, .slice p9226 x9224.length c9227), (5, .slice p9321 s9311.1.length c9322), (6, .slice p9253 ([] : List Int).length c9254), (16, .slice p9226 x9224.length c9227), (17, .int .i64 (x9224.length : Int)), (18, .int .i64 s9311.2), (19, .bool (decide (s9311.2 < (x9224.length : Int))))] w9315 (by kernel_rfl) ?_
    refine W_nil ?_
    refine N_then ?_
    refine G_seq ?_
    rcases gx_bif hm with ⟨hc9332, hm⟩ | ⟨hc9332, hm⟩
    · refine G_cond_t (b := (decide (s9311.2 < (x9224.length : Int)))) hc9332 (by kernel_rfl) ?_
      refine G_skip ?_
      refine N_then ?_
      refine G_seq ?_
      refine G_block ?_
      refine G_seq ?_
      refine G_region ?_
      obtain ⟨y9333, hy9333, hm⟩ := gx_bind hm
      refine W_val (elemP p9226 (s9311.2.toNat * 4)) w9315 (by kernel_rfl) (E_index (E := encEvent) _ _ _ x9224.length c9227 .i64 s9311.2 4 (y := y9333) rfl (by kernel_rfl) (by kernel_rfl) (by kernel_rfl) (h9228.mem0 M9316) rfl hy9333) ?_
      refine W_val (.agg #[.int .i64 y9333.Tick, .int .i64 y9333.Guest, .string y9333.Kind, .int .i64 y9333.Value]) w9315 (by kernel_rfl) (E_loadE (E := encEvent) _ _ true 4 s9311.2 0 (s9311.2.toNat * 4) y9333 (.agg #[.int .i64 y9333.Tick, .int .i64 y9333.Guest, .string y9333.Kind, .int .i64 y9333.Value]) rfl (by kernel_rfl) (by kernel_rfl) (by kernel_rfl) (h9228.mem0 M9316) hy9333 rfl) ?_
      refine W_new (fun b => .pointer (some ⟨b, 0, none⟩)) (.cells ⟨[.int .i64 0, .int .i64 0, .string ByteArray.empty, .int .i64 0]⟩ 26 (0, 0)) M9316 rfl (by kernel_rfl) (by kernel_rfl) ?_
      intro b9335 w9336 M9337
      refine W_store _ _ _ true 4 b9335 0 [.int .i64 0, .int .i64 0, .string ByteArray.empty, .int .i64 0] 26 (.agg #[.int .i64 y9333.Tick, .int .i64 y9333.Guest, .string y9333.Kind, .int .i64 y9333.Value]) 2 [.int .i64 y9333.Tick, .int .i64 y9333.Guest, .string y9333.Kind, .int .i64 y9333.Value] M9337 (by kernel_rfl) rfl (by kernel_rfl) (by kernel_rfl) (by kernel_rfl) (by kernel_rfl) (by kernel_rfl) (by kernel_rfl) (by kernel_rfl) (by kernel_rfl) ?_
      intro w9338 M9339
      refine W_nil ?_
      refine N_then ?_
      refine G_region ?_
      refine W_run 2 [(0, .slice p9226 x9224.length c9227), (5, .slice p9321 s9311.1.length c9322), (6, .slice p9253 ([] : List Int).length c9254), (16, .slice p9226 x9224.length c9227), (17, .int .i64 (x9224.length : Int)), (18, .int .i64 s9311.2), (22, .slice p9321 s9311.1.length c9322), (23, .pointer (some ⟨b9335, 2, none⟩))] w9338 (by kernel_rfl) ?_
      refine W_val (.string y9333.Kind) w9338 (by kernel_rfl) (E_load (e := 26) (fr := (0, 0)) _ _ false 1 b9335 2 [.int .i64 y9333.Tick, .int .i64 y9333.Guest, .string y9333.Kind, .int .i64 y9333.Value] (.string y9333.Kind) rfl (by kernel_rfl) (by kernel_rfl) (by kernel_rfl) (M9339.blk 2 (b := b9335) (o := .cells ⟨[.int .i64 y9333.Tick, .int .i64 y9333.Guest, .string y9333.Kind, .int .i64 y9333.Value]⟩ 26 (0, 0)) (by kernel_rfl))) ?_
      refine W_lit (E := Gx.encS) [y9333.Kind] 1 [.string y9333.Kind] 9 M9339 (by kernel_rfl) (by kernel_rfl) (by kernel_rfl) (by kernel_rfl) (by kernel_rfl) ?_
      intro p9340 c9341 sg9342 w9343 ho9344 M9345
      obtain ⟨ap9347, hap9347, hm⟩ := gx_bind hm
      refine W_append (E := Gx.encS) _ _ _ 16 [.string ByteArray.empty] 1 c9341 M9345 ho9324 (by kernel_rfl) (by kernel_rfl) (by kernel_rfl) rfl (by kernel_rfl) (by kernel_rfl) (by kernel_rfl) (by kernel_rfl) (by kernel_rfl) (by kernel_rfl) (ho9344.rd M9345 3 (by kernel_rfl)) hap9347 ?_
      intro p9348 c9349 sg9350 w9351 ho9352 M9353
      refine W_run 1 [(0, .slice p9226 x9224.length c9227), (5, .slice p9348 ap9347.length c9349), (6, .slice p9253 ([] : List Int).length c9254), (16, .slice p9226 x9224.length c9227), (17, .int .i64 (x9224.length : Int)), (18, .int .i64 s9311.2)] w9351 (by kernel_rfl) ?_
      refine W_nil ?_
      refine N_block ?_
      refine N_then ?_
      refine G_region ?_
      refine W_run 2 [(0, .slice p9226 x9224.length c9227), (5, .slice p9348 ap9347.length c9349), (6, .slice p9253 ([] : List Int).length c9254), (16, .slice p9226 x9224.length c9227), (17, .int .i64 (x9224.length : Int)), (18, .int .i64 (w64 (s9311.2 + 1)))] w9351 (by kernel_rfl) ?_
      refine W_nil ?_
      obtain rfl := Option.some.inj hm
      exact N_loop fun a ha => ⟨_, rfl, p9348, c9349, sg9350, ho9352, M9353.pick [0, 1] (by kernel_rfl), ha.sub (by kernel_rfl)⟩
    refine G_cond_f (b := (decide (s9311.2 < (x9224.length : Int)))) hc9332 (by kernel_rfl) ?_
    refine G_exit ?_
    refine N_then_exit ?_
    refine N_then_exit ?_
    refine N_block_eq ?_
    obtain rfl := Option.some.inj hm
    obtain rfl := hout9313 _ rfl
    exact N_meet fun a ha => ⟨p9321, c9322, sg9323, ho9324, M9316.pick [0, 1] (by kernel_rfl), ha.sub (by kernel_rfl)⟩
  intro a9355 w9356 ⟨p9327, c9328, sg9329, ho9330, M9357, hS9358⟩
  refine N_use hS9358 ?_
  have hm := hmo9320
  refine N_then ?_
  refine G_seq ?_
  refine G_region ?_
  refine W_run 1 [(0, .slice p9226 x9224.length c9227), (5, .slice p9327 out9318.length c9328), (6, .slice p9253 ([] : List Int).length c9254), (28, .slice p9327 out9318.length c9328)] w9356 (by kernel_rfl) ?_
  obtain ⟨r9371, hr9371, hm⟩ := gx_bind hm
  refine W_call 70 #[.slice p9327 out9318.length c9328] (by kernel_rfl) (by kernel_rfl) ?_
  refine (c_slices_Sort_70 w9356 out9318 p9327 c9328 sg9329 ho9330 (M9357.hasPick [1]) (M9357.nodupPick [1] (by kernel_rfl)) hr9371).mono ?_
  rintro e_ w9375 ⟨sg9372, rfl, ho9373, hl9374, K9376⟩
  have M9377 := M9357.callF' [1] [0] (by kernel_rfl) K9376
  refine ⟨_, rfl, ?_⟩
  refine W_conv 5 (.slice p9327 out9318.length c9328) (.slice p9327 r9371.length c9328) (by kernel_rfl) (by first | rw [hl9374] | rw [hl9374]) ?_
  refine W_conv 28 (.slice p9327 out9318.length c9328) (.slice p9327 r9371.length c9328) (by kernel_rfl) (by first | rw [hl9374] | rw [hl9374]) ?_
  refine W_nil ?_
  refine N_then ?_
  refine G_seq ?_
  refine G_region ?_
  refine W_run 1 [(0, .slice p9226 x9224.length c9227), (5, .slice p9327 r9371.length c9328), (6, .slice p9253 ([] : List Int).length c9254), (30, .slice p9327 r9371.length c9328)] w9375 (by kernel_rfl) ?_
  obtain ⟨r9408, hr9408, hm⟩ := gx_bind hm
  refine W_call 71 #[.slice p9327 r9371.length c9328] (by kernel_rfl) (by kernel_rfl) ?_
  refine (c_slices_Compact_71 w9375 r9371 p9327 c9328 sg9372 ho9373 (M9377.hasPick [1]) (M9377.nodupPick [1] (by kernel_rfl)) hr9408).mono ?_
  rintro e_ w9419 ⟨sg9409, p9417, c9418, rfl, ho9410, hl9411, hw9416, K9420⟩
  obtain ⟨l9413, h9414, rfl, rfl, hv9415⟩ := hw9416
  have M9421 := M9377.callF' [1] [0] (by kernel_rfl) K9420
  refine ⟨_, rfl, ?_⟩
  refine W_conv 5 (.slice p9327 r9371.length c9328) (.slice p9327 r9408.2.length c9328) (by kernel_rfl) (by first | rw [hl9411] | rw [hl9411]) ?_
  refine W_conv 30 (.slice p9327 r9371.length c9328) (.slice p9327 r9408.2.length c9328) (by kernel_rfl) (by first | rw [hl9411] | rw [hl9411]) ?_
  refine W_run 1 [(0, .slice p9226 x9224.length c9227), (5, .slice (subP p9327 l9413.toNat c9328 1) r9408.1.length (c9328 - l9413.toNat)), (6, .slice p9253 ([] : List Int).length c9254)] w9419 (by kernel_rfl) ?_
  refine W_nil ?_
  refine N_then ?_
  refine G_seq ?_
  refine G_seq ?_
  refine G_region ?_
  refine W_run 3 [(0, .slice p9226 x9224.length c9227), (5, .slice (subP p9327 l9413.toNat c9328 1) r9408.1.length (c9328 - l9413.toNat)), (6, .slice p9253 ([] : List Int).length c9254), (32, .slice (subP p9327 l9413.toNat c9328 1) r9408.1.length (c9328 - l9413.toNat)), (33, .int .i64 (r9408.1.length : Int)), (34, .int .i64 0)] w9419 (by kernel_rfl) ?_
  refine W_nil ?_
  refine N_then ?_
  obtain ⟨out9777, hw9778, hmo9779⟩ := gx_bind hm
  refine G_meet (fun a w' => ∃ (p9786 : Option Addr), ∃ (c9787 : Nat), ∃ (sg9788 : Seg), ownS Gx.encI out9777 p9786 c9787 sg9788 ∧ Mem [] w w' [sg9409, sg9788] ∧ Sat Try.f37.ntmps [(5, .slice (subP p9327 l9413.toNat c9328 1) r9408.1.length (c9328 - l9413.toNat)), (6, .slice p9786 out9777.length c9787)] a) ?_ ?_
  · refine G_block ?_
    refine G_while (σ := List Int × Int) (ρ := List Int) (fun s9770 a w' => ∃ (p9780 : Option Addr), ∃ (c9781 : Nat), ∃ (sg9782 : Seg), ownS Gx.encI s9770.1 p9780 c9781 sg9782 ∧ Mem [] w w' [sg9409, sg9782] ∧ Sat Try.f37.ntmps [(0, .slice p9226 x9224.length c9227), (5, .slice (subP p9327 l9413.toNat c9328 1) r9408.1.length (c9328 - l9413.toNat)), (6, .slice p9780 s9770.1.length c9781), (32, .slice (subP p9327 l9413.toNat c9328 1) r9408.1.length (c9328 - l9413.toNat)), (33, .int .i64 (r9408.1.length : Int)), (34, .int .i64 s9770.2)] a) hw9778 (fun a ha => ⟨p9253, c9254, sg9255, ho9257, M9421.pick [1, 0] (by kernel_rfl), ha.sub (by kernel_rfl)⟩) ?_
    clear hm
    intro s9770 x9771 hm hout9772 a9773 w9774 ⟨p9780, c9781, sg9782, ho9783, M9775, hS9776⟩
    refine G_use hS9776 ?_
    refine G_seq ?_
    refine G_region ?_
    refine W_run 1 [(0, .slice p9226 x9224.length c9227), (5, .slice (subP p9327 l9413.toNat c9328 1) r9408.1.length (c9328 - l9413.toNat)), (6, .slice p9780 s9770.1.length c9781), (32, .slice (subP p9327 l9413.toNat c9328 1) r9408.1.length (c9328 - l9413.toNat)), (33, .int .i64 (r9408.1.length : Int)), (34, .int .i64 s9770.2), (35, .bool (decide (s9770.2 < (r9408.1.length : Int))))] w9774 (by kernel_rfl) ?_
    refine W_nil ?_
    refine N_then ?_
    refine G_seq ?_
    rcases gx_bif hm with ⟨hc9791, hm⟩ | ⟨hc9791, hm⟩
    · refine G_cond_t (b := (decide (s9770.2 < (r9408.1.length : Int)))) hc9791 (by kernel_rfl) ?_
      refine G_skip ?_
      refine N_then ?_
      refine G_seq ?_
      refine G_block ?_
      refine G_seq ?_
      refine G_region ?_
      obtain ⟨y9792, hy9792, hm⟩ := gx_bind hm
      refine W_val (elemP (subP p9327 l9413.toNat c9328 1) (s9770.2.toNat * 1)) w9774 (by kernel_rfl) (E_index (E := Gx.encS) _ _ _ r9408.1.length (c9328 - l9413.toNat) .i64 s9770.2 1 (y := y9792) rfl (by kernel_rfl) (by kernel_rfl) (by kernel_rfl) ((ho9410.rd M9775 0 (by kernel_rfl)).sliceM hv9415) rfl hy9792) ?_
      refine W_val (.string y9792) w9774 (by kernel_rfl) (E_loadE (E := Gx.encS) _ _ false 1 s9770.2 0 (s9770.2.toNat * 1) y9792 (.string y9792) rfl (by kernel_rfl) (by kernel_rfl) (by kernel_rfl) ((ho9410.rd M9775 0 (by kernel_rfl)).sliceM hv9415) hy9792 rfl) ?_
      refine W_new (fun b => .pointer (some ⟨b, 0, none⟩)) (.cells ⟨[.string ByteArray.empty]⟩ 9 (0, 0)) M9775 rfl (by kernel_rfl) (by kernel_rfl) ?_
      intro b9794 w9795 M9796
      refine W_store _ _ _ false 1 b9794 0 [.string ByteArray.empty] 9 (.string y9792) 2 [.string y9792] M9796 (by kernel_rfl) rfl (by kernel_rfl) (by kernel_rfl) (by kernel_rfl) (by kernel_rfl) (by kernel_rfl) (by kernel_rfl) (by kernel_rfl) (by kernel_rfl) ?_
      intro w9797 M9798
      refine W_nil ?_
      refine N_then ?_
      refine G_region ?_
      refine W_run 3 [(0, .slice p9226 x9224.length c9227), (5, .slice (subP p9327 l9413.toNat c9328 1) r9408.1.length (c9328 - l9413.toNat)), (6, .slice p9780 s9770.1.length c9781), (32, .slice (subP p9327 l9413.toNat c9328 1) r9408.1.length (c9328 - l9413.toNat)), (33, .int .i64 (r9408.1.length : Int)), (34, .int .i64 s9770.2), (38, .slice p9780 s9770.1.length c9781), (39, .slice p9226 x9224.length c9227), (40, .func (.func 72) #[] #[.pointer (some ⟨b9794, 0, none⟩)])] w9797 (by kernel_rfl) ?_
      obtain ⟨r9799, hr9799, hm⟩ := gx_bind hm
      refine W_call 62 #[.slice p9226 x9224.length c9227, .func (.func 72) #[] #[.pointer (some ⟨b9794, 0, none⟩)]] (by kernel_rfl) (by kernel_rfl) ?_
      refine (c_i_eventsWhere__i_CountKinds_1 w9797 x9224 p9226 c9227 (h9228.mem0 M9798) y9792 b9794 (M9798.blk 2 (b := b9794) (o := .cells ⟨[.string y9792]⟩ 9 (0, 0)) (by kernel_rfl)) hr9799).mono ?_
      rintro e_ w9805 ⟨p9801, c9802, sg9803, rfl, ho9804, K9806⟩
      have M9807 := M9798.call K9806
      refine ⟨_, rfl, ?_⟩
      refine W_run 1 [(0, .slice p9226 x9224.length c9227), (5, .slice (subP p9327 l9413.toNat c9328 1) r9408.1.length (c9328 - l9413.toNat)), (6, .slice p9780 s9770.1.length c9781), (32, .slice (subP p9327 l9413.toNat c9328 1) r9408.1.length (c9328 - l9413.toNat)), (33, .int .i64 (r9408.1.length : Int)), (34, .int .i64 s9770.2), (38, .slice p9780 s9770.1.length c9781), (42, .int .i64 (r9799.length : Int))] w9805 (by kernel_rfl) ?_
      refine W_lit (E := Gx.encI) [(r9799.length : Int)] 1 [.int .i64 (r9799.length : Int)] 3 M9807 (by kernel_rfl) (by kernel_rfl) (by kernel_rfl) (by kernel_rfl) (by kernel_rfl) ?_
      intro p9808 c9809 sg9810 w9811 ho9812 M9813
      obtain ⟨ap9815, hap9815, hm⟩ := gx_bind hm
      refine W_append (E := Gx.encI) _ _ _ 8 [.int .i64 0] 1 c9809 M9813 ho9783 (by kernel_rfl) (by kernel_rfl) (by kernel_rfl) rfl (by kernel_rfl) (by kernel_rfl) (by kernel_rfl) (by kernel_rfl) (by kernel_rfl) (by kernel_rfl) (ho9812.rd M9813 4 (by kernel_rfl)) hap9815 ?_
      intro p9816 c9817 sg9818 w9819 ho9820 M9821
      refine W_run 1 [(0, .slice p9226 x9224.length c9227), (5, .slice (subP p9327 l9413.toNat c9328 1) r9408.1.length (c9328 - l9413.toNat)), (6, .slice p9816 ap9815.length c9817), (32, .slice (subP p9327 l9413.toNat c9328 1) r9408.1.length (c9328 - l9413.toNat)), (33, .int .i64 (r9408.1.length : Int)), (34, .int .i64 s9770.2)] w9819 (by kernel_rfl) ?_
      refine W_nil ?_
      refine N_block ?_
      refine N_then ?_
      refine G_region ?_
      refine W_run 2 [(0, .slice p9226 x9224.length c9227), (5, .slice (subP p9327 l9413.toNat c9328 1) r9408.1.length (c9328 - l9413.toNat)), (6, .slice p9816 ap9815.length c9817), (32, .slice (subP p9327 l9413.toNat c9328 1) r9408.1.length (c9328 - l9413.toNat)), (33, .int .i64 (r9408.1.length : Int)), (34, .int .i64 (w64 (s9770.2 + 1)))] w9819 (by kernel_rfl) ?_
      refine W_nil ?_
      obtain rfl := Option.some.inj hm
      exact N_loop fun a ha => ⟨_, rfl, p9816, c9817, sg9818, ho9820, M9821.pick [0, 1] (by kernel_rfl), ha.sub (by kernel_rfl)⟩
    refine G_cond_f (b := (decide (s9770.2 < (r9408.1.length : Int)))) hc9791 (by kernel_rfl) ?_
    refine G_exit ?_
    refine N_then_exit ?_
    refine N_then_exit ?_
    refine N_block_eq ?_
    obtain rfl := Option.some.inj hm
    obtain rfl := hout9772 _ rfl
    exact N_meet fun a ha => ⟨p9780, c9781, sg9782, ho9783, M9775.pick [0, 1] (by kernel_rfl), ha.sub (by kernel_rfl)⟩
  intro a9823 w9824 ⟨p9786, c9787, sg9788, ho9789, M9825, hS9826⟩
  refine N_use hS9826 ?_
  have hm := hmo9779
  refine N_then ?_
  refine G_seq ?_
  refine G_region ?_
  refine W_run 5 [(2, .slice (subP p9327 l9413.toNat c9328 1) r9408.1.length (c9328 - l9413.toNat)), (3, .slice p9786 out9777.length c9787), (4, .bool true)] w9824 (by kernel_rfl) ?_
  refine W_nil ?_
  refine N_then ?_
  refine G_ret ?_
  obtain rfl := Option.some.inj hm
  refine N_ret [.slice (subP p9327 l9413.toNat c9328 1) r9408.1.length (c9328 - l9413.toNat), .slice p9786 out9777.length c9787, .bool true] (RVs_cons (RV_tmp (by kernel_rfl)) (RVs_cons (RV_tmp (by kernel_rfl)) (RVs_cons (RV_tmp (by kernel_rfl)) RVs_nil))) ?_
  exact ⟨(subP p9327 l9413.toNat c9328 1), (c9328 - l9413.toNat), sg9409, p9786, c9787, sg9788, rfl, (ho9410.partM hv9415), ho9789, M9825.pick [0, 1] (by kernel_rfl)⟩
theorem c_l_eqStringS (w : World) (x9841 : List ByteArray) (p9843 : Option Addr) (c9844 : Nat) (h9845 : rdS Gx.encS w x9841 p9843 c9844) (x9846 : List ByteArray) (p9848 : Option Addr) (c9849 : Nat) (h9850 : rdS Gx.encS w x9846 p9848 c9849) {r : Bool} (hm : M.l_eqStringS x9841 x9846 = some r) :
    Calls Try.prog 38 #[.slice p9843 x9841.length c9844, .slice p9848 x9846.length c9849] w fun e w' => e = .returned (.bool r) ∧ Mem [] w w' [] := by
  unfold M.l_eqStringS at hm
  refine C_enter Try.func38 rfl (by kernel_rfl) ?_
  have M0 := Mem.refl [] w
  refine G_seq ?_
  refine G_region ?_
  refine W_run 1 [(0, .slice p9843 x9841.length c9844), (1, .slice p9848 x9846.length c9849)] w (by kernel_rfl) ?_
  refine W_nil ?_
  refine N_then ?_
  refine G_seq ?_
  refine G_seq ?_
  refine G_region ?_
  refine W_run 5 [(0, .slice p9843 x9841.length c9844), (1, .slice p9848 x9846.length c9849), (10, .bool ((x9841.length : Int) != (x9846.length : Int)))] w (by kernel_rfl) ?_
  refine W_nil ?_
  refine N_then ?_
  rcases gx_bif hm with ⟨hc9851, hm⟩ | ⟨hc9851, hm⟩
  · refine G_cond_t (b := ((x9841.length : Int) != (x9846.length : Int))) hc9851 (by kernel_rfl) ?_
    refine G_seq ?_
    refine G_region ?_
    refine W_run 1 [(4, .bool false)] w (by kernel_rfl) ?_
    refine W_nil ?_
    refine N_then ?_
    refine G_ret ?_
    refine N_then_ret ?_
    obtain rfl := Option.some.inj hm
    refine N_ret [.bool false] (RVs_cons (RV_tmp (by kernel_rfl)) RVs_nil) ?_
    exact ⟨rfl, M0.pick [] (by kernel_rfl)⟩
  refine G_cond_f (b := ((x9841.length : Int) != (x9846.length : Int))) hc9851 (by kernel_rfl) ?_
  refine G_skip ?_
  refine N_then ?_
  refine G_seq ?_
  refine G_seq ?_
  refine G_region ?_
  refine W_run 1 [(0, .slice p9843 x9841.length c9844), (1, .slice p9848 x9846.length c9849), (5, .int .i64 0)] w (by kernel_rfl) ?_
  refine W_nil ?_
  refine N_then ?_
  obtain ⟨out9871, hw9872, hmo9873⟩ := gx_bind hm
  refine G_meet (fun a w' => ∃ (o9874 : Unit), out9871 = .inl o9874 ∧ Mem [] w w' [] ∧ Sat Try.f38.ntmps [] a) ?_ ?_
  · refine G_block ?_
    refine G_while (σ := Int) (ρ := (Unit) ⊕ (Bool)) (fun s9864 a w' => Mem [] w w' [] ∧ Sat Try.f38.ntmps [(0, .slice p9843 x9841.length c9844), (1, .slice p9848 x9846.length c9849), (5, .int .i64 s9864)] a) hw9872 (fun a ha => ⟨M0.pick [] (by kernel_rfl), ha.sub (by kernel_rfl)⟩) ?_
    clear hm
    intro s9864 x9865 hm hout9866 a9867 w9868 ⟨M9869, hS9870⟩
    refine G_use hS9870 ?_
    refine G_seq ?_
    refine G_seq ?_
    refine G_region ?_
    refine W_run 4 [(0, .slice p9843 x9841.length c9844), (1, .slice p9848 x9846.length c9849), (5, .int .i64 s9864), (14, .bool (decide (s9864 < (x9841.length : Int))))] w9868 (by kernel_rfl) ?_
    refine W_nil ?_
    refine N_then ?_
    rcases gx_bif hm with ⟨hc9875, hm⟩ | ⟨hc9875, hm⟩
    · refine G_cond_t (b := (decide (s9864 < (x9841.length : Int)))) hc9875 (by kernel_rfl) ?_
      refine G_skip ?_
      refine N_then ?_
      refine G_seq ?_
      refine G_block ?_
      refine G_seq ?_
      refine G_quiet (by kernel_rfl) (by kernel_rfl) M9869 ?_
      refine Z_runs [.slice p9843 x9841.length c9844, .int .i64 s9864] [(0, .slice p9843 x9841.length c9844), (1, .slice p9848 x9846.length c9849), (5, .int .i64 s9864), (17, .slice p9843 x9841.length c9844), (18, .int .i64 s9864)] (fun w_ => by kernel_rfl) (by kernel_rfl) ?_
      obtain ⟨y9876, hy9876, hm⟩ := gx_bind hm
      refine Z_val (elemP p9843 (s9864.toNat * 1)) (by kernel_rfl) (fun w_ M_ => (E_index (E := Gx.encS) _ _ _ x9841.length c9844 .i64 s9864 1 (y := y9876) rfl (by kernel_rfl) (by kernel_rfl) (by kernel_rfl) (h9845.mem0 M_) rfl hy9876)) ?_
      refine Z_val (.string y9876) (by kernel_rfl) (fun w_ M_ => (E_loadE (E := Gx.encS) _ _ false 1 s9864 0 (s9864.toNat * 1) y9876 (.string y9876) rfl (by kernel_rfl) (by kernel_rfl) (by kernel_rfl) (h9845.mem0 M_) hy9876 rfl)) ?_
      refine Z_runs [.slice p9848 x9846.length c9849, .int .i64 s9864] [(0, .slice p9843 x9841.length c9844), (1, .slice p9848 x9846.length c9849), (5, .int .i64 s9864), (20, .string y9876), (21, .slice p9848 x9846.length c9849), (22, .int .i64 s9864)] (fun w_ => by kernel_rfl) (by kernel_rfl) ?_
      obtain ⟨y9877, hy9877, hm⟩ := gx_bind hm
      refine Z_val (elemP p9848 (s9864.toNat * 1)) (by kernel_rfl) (fun w_ M_ => (E_index (E := Gx.encS) _ _ _ x9846.length c9849 .i64 s9864 1 (y := y9877) rfl (by kernel_rfl) (by kernel_rfl) (by kernel_rfl) (h9850.mem0 M_) rfl hy9877)) ?_
      refine Z_val (.string y9877) (by kernel_rfl) (fun w_ M_ => (E_loadE (E := Gx.encS) _ _ false 1 s9864 0 (s9864.toNat * 1) y9877 (.string y9877) rfl (by kernel_rfl) (by kernel_rfl) (by kernel_rfl) (h9850.mem0 M_) hy9877 rfl)) ?_
      refine Z_runs [.bool (!(y9876.toList == y9877.toList))] [(0, .slice p9843 x9841.length c9844), (1, .slice p9848 x9846.length c9849), (5, .int .i64 s9864), (25, .bool (!(y9876.toList == y9877.toList)))] (fun w_ => by kernel_rfl) (by kernel_rfl) ?_
      refine Z_end fun w9878 M9879 => ?_
      refine N_then ?_
      rcases gx_bif hm with ⟨hc9880, hm⟩ | ⟨hc9880, hm⟩
      · refine G_cond_t (b := (!(y9876.toList == y9877.toList))) hc9880 (by kernel_rfl) ?_
        refine G_seq ?_
        refine G_region ?_
        refine W_run 1 [(4, .bool false)] w9878 (by kernel_rfl) ?_
        refine W_nil ?_
        refine N_then ?_
        refine G_ret ?_
        refine N_block_ret ?_
        refine N_then_ret ?_
        refine N_then_ret ?_
        obtain rfl := Option.some.inj hm
        obtain rfl := hout9866 _ rfl
        have hm := hmo9873; simp only [Sum.elim_inr] at hm
        refine N_block_ret ?_
        refine N_meet_ret ?_
        refine N_then_ret ?_
        obtain rfl := Option.some.inj hm
        refine N_ret [.bool false] (RVs_cons (RV_tmp (by kernel_rfl)) RVs_nil) ?_
        exact ⟨rfl, M9879.pick [] (by kernel_rfl)⟩
      refine G_cond_f (b := (!(y9876.toList == y9877.toList))) hc9880 (by kernel_rfl) ?_
      refine G_skip ?_
      refine N_block ?_
      refine N_then ?_
      refine G_region ?_
      refine W_run 3 [(0, .slice p9843 x9841.length c9844), (1, .slice p9848 x9846.length c9849), (5, .int .i64 (w64 (s9864 + 1)))] w9878 (by kernel_rfl) ?_
      refine W_nil ?_
      obtain rfl := Option.some.inj hm
      exact N_loop fun a ha => ⟨_, rfl, M9879.pick [] (by kernel_rfl), ha.sub (by kernel_rfl)⟩
    refine G_cond_f (b := (decide (s9864 < (x9841.length : Int)))) hc9875 (by kernel_rfl) ?_
    refine G_exit ?_
    refine N_then_exit ?_
    refine N_then_exit ?_
    refine N_block_eq ?_
    obtain rfl := Option.some.inj hm
    obtain rfl := hout9866 _ rfl
    exact N_meet fun a ha => ⟨_, rfl, M9869.pick [] (by kernel_rfl), ha.sub (by kernel_rfl)⟩
  intro a9881 w9882 ⟨o9874, hout_, M9883, hS9884⟩
  refine N_use hS9884 ?_
  subst hout_
  have hm := hmo9873; simp only [Sum.elim_inl] at hm
  refine N_then ?_
  refine G_seq ?_
  refine G_region ?_
  refine W_run 1 [(4, .bool true)] w9882 (by kernel_rfl) ?_
  refine W_nil ?_
  refine N_then ?_
  refine G_ret ?_
  obtain rfl := Option.some.inj hm
  refine N_ret [.bool true] (RVs_cons (RV_tmp (by kernel_rfl)) RVs_nil) ?_
  exact ⟨rfl, M9883.pick [] (by kernel_rfl)⟩
theorem c_l_eqIntS (w : World) (x9890 : List Int) (p9892 : Option Addr) (c9893 : Nat) (h9894 : rdS Gx.encI w x9890 p9892 c9893) (x9895 : List Int) (p9897 : Option Addr) (c9898 : Nat) (h9899 : rdS Gx.encI w x9895 p9897 c9898) {r : Bool} (hm : M.l_eqIntS x9890 x9895 = some r) :
    Calls Try.prog 39 #[.slice p9892 x9890.length c9893, .slice p9897 x9895.length c9898] w fun e w' => e = .returned (.bool r) ∧ Mem [] w w' [] := by
  unfold M.l_eqIntS at hm
  refine C_enter Try.func39 rfl (by kernel_rfl) ?_
  have M0 := Mem.refl [] w
  refine G_seq ?_
  refine G_region ?_
  refine W_run 1 [(0, .slice p9892 x9890.length c9893), (1, .slice p9897 x9895.length c9898)] w (by kernel_rfl) ?_
  refine W_nil ?_
  refine N_then ?_
  refine G_seq ?_
  refine G_seq ?_
  refine G_region ?_
  refine W_run 5 [(0, .slice p9892 x9890.length c9893), (1, .slice p9897 x9895.length c9898), (10, .bool ((x9890.length : Int) != (x9895.length : Int)))] w (by kernel_rfl) ?_
  refine W_nil ?_
  refine N_then ?_
  rcases gx_bif hm with ⟨hc9900, hm⟩ | ⟨hc9900, hm⟩
  · refine G_cond_t (b := ((x9890.length : Int) != (x9895.length : Int))) hc9900 (by kernel_rfl) ?_
    refine G_seq ?_
    refine G_region ?_
    refine W_run 1 [(4, .bool false)] w (by kernel_rfl) ?_
    refine W_nil ?_
    refine N_then ?_
    refine G_ret ?_
    refine N_then_ret ?_
    obtain rfl := Option.some.inj hm
    refine N_ret [.bool false] (RVs_cons (RV_tmp (by kernel_rfl)) RVs_nil) ?_
    exact ⟨rfl, M0.pick [] (by kernel_rfl)⟩
  refine G_cond_f (b := ((x9890.length : Int) != (x9895.length : Int))) hc9900 (by kernel_rfl) ?_
  refine G_skip ?_
  refine N_then ?_
  refine G_seq ?_
  refine G_seq ?_
  refine G_region ?_
  refine W_run 1 [(0, .slice p9892 x9890.length c9893), (1, .slice p9897 x9895.length c9898), (5, .int .i64 0)] w (by kernel_rfl) ?_
  refine W_nil ?_
  refine N_then ?_
  obtain ⟨out9920, hw9921, hmo9922⟩ := gx_bind hm
  refine G_meet (fun a w' => ∃ (o9923 : Unit), out9920 = .inl o9923 ∧ Mem [] w w' [] ∧ Sat Try.f39.ntmps [] a) ?_ ?_
  · refine G_block ?_
    refine G_while (σ := Int) (ρ := (Unit) ⊕ (Bool)) (fun s9913 a w' => Mem [] w w' [] ∧ Sat Try.f39.ntmps [(0, .slice p9892 x9890.length c9893), (1, .slice p9897 x9895.length c9898), (5, .int .i64 s9913)] a) hw9921 (fun a ha => ⟨M0.pick [] (by kernel_rfl), ha.sub (by kernel_rfl)⟩) ?_
    clear hm
    intro s9913 x9914 hm hout9915 a9916 w9917 ⟨M9918, hS9919⟩
    refine G_use hS9919 ?_
    refine G_seq ?_
    refine G_seq ?_
    refine G_region ?_
    refine W_run 4 [(0, .slice p9892 x9890.length c9893), (1, .slice p9897 x9895.length c9898), (5, .int .i64 s9913), (14, .bool (decide (s9913 < (x9890.length : Int))))] w9917 (by kernel_rfl) ?_
    refine W_nil ?_
    refine N_then ?_
    rcases gx_bif hm with ⟨hc9924, hm⟩ | ⟨hc9924, hm⟩
    · refine G_cond_t (b := (decide (s9913 < (x9890.length : Int)))) hc9924 (by kernel_rfl) ?_
      refine G_skip ?_
      refine N_then ?_
      refine G_seq ?_
      refine G_block ?_
      refine G_seq ?_
      refine G_quiet (by kernel_rfl) (by kernel_rfl) M9918 ?_
      refine Z_runs [.slice p9892 x9890.length c9893, .int .i64 s9913] [(0, .slice p9892 x9890.length c9893), (1, .slice p9897 x9895.length c9898), (5, .int .i64 s9913), (17, .slice p9892 x9890.length c9893), (18, .int .i64 s9913)] (fun w_ => by kernel_rfl) (by kernel_rfl) ?_
      obtain ⟨y9925, hy9925, hm⟩ := gx_bind hm
      refine Z_val (elemP p9892 (s9913.toNat * 1)) (by kernel_rfl) (fun w_ M_ => (E_index (E := Gx.encI) _ _ _ x9890.length c9893 .i64 s9913 1 (y := y9925) rfl (by kernel_rfl) (by kernel_rfl) (by kernel_rfl) (h9894.mem0 M_) rfl hy9925)) ?_
      refine Z_val (.int .i64 y9925) (by kernel_rfl) (fun w_ M_ => (E_loadE (E := Gx.encI) _ _ false 1 s9913 0 (s9913.toNat * 1) y9925 (.int .i64 y9925) rfl (by kernel_rfl) (by kernel_rfl) (by kernel_rfl) (h9894.mem0 M_) hy9925 rfl)) ?_
      refine Z_runs [.slice p9897 x9895.length c9898, .int .i64 s9913] [(0, .slice p9892 x9890.length c9893), (1, .slice p9897 x9895.length c9898), (5, .int .i64 s9913), (20, .int .i64 y9925), (21, .slice p9897 x9895.length c9898), (22, .int .i64 s9913)] (fun w_ => by kernel_rfl) (by kernel_rfl) ?_
      obtain ⟨y9926, hy9926, hm⟩ := gx_bind hm
      refine Z_val (elemP p9897 (s9913.toNat * 1)) (by kernel_rfl) (fun w_ M_ => (E_index (E := Gx.encI) _ _ _ x9895.length c9898 .i64 s9913 1 (y := y9926) rfl (by kernel_rfl) (by kernel_rfl) (by kernel_rfl) (h9899.mem0 M_) rfl hy9926)) ?_
      refine Z_val (.int .i64 y9926) (by kernel_rfl) (fun w_ M_ => (E_loadE (E := Gx.encI) _ _ false 1 s9913 0 (s9913.toNat * 1) y9926 (.int .i64 y9926) rfl (by kernel_rfl) (by kernel_rfl) (by kernel_rfl) (h9899.mem0 M_) hy9926 rfl)) ?_
      refine Z_runs [.bool (y9925 != y9926)] [(0, .slice p9892 x9890.length c9893), (1, .slice p9897 x9895.length c9898), (5, .int .i64 s9913), (25, .bool (y9925 != y9926))] (fun w_ => by kernel_rfl) (by kernel_rfl) ?_
      refine Z_end fun w9927 M9928 => ?_
      refine N_then ?_
      rcases gx_bif hm with ⟨hc9929, hm⟩ | ⟨hc9929, hm⟩
      · refine G_cond_t (b := (y9925 != y9926)) hc9929 (by kernel_rfl) ?_
        refine G_seq ?_
        refine G_region ?_
        refine W_run 1 [(4, .bool false)] w9927 (by kernel_rfl) ?_
        refine W_nil ?_
        refine N_then ?_
        refine G_ret ?_
        refine N_block_ret ?_
        refine N_then_ret ?_
        refine N_then_ret ?_
        obtain rfl := Option.some.inj hm
        obtain rfl := hout9915 _ rfl
        have hm := hmo9922; simp only [Sum.elim_inr] at hm
        refine N_block_ret ?_
        refine N_meet_ret ?_
        refine N_then_ret ?_
        obtain rfl := Option.some.inj hm
        refine N_ret [.bool false] (RVs_cons (RV_tmp (by kernel_rfl)) RVs_nil) ?_
        exact ⟨rfl, M9928.pick [] (by kernel_rfl)⟩
      refine G_cond_f (b := (y9925 != y9926)) hc9929 (by kernel_rfl) ?_
      refine G_skip ?_
      refine N_block ?_
      refine N_then ?_
      refine G_region ?_
      refine W_run 3 [(0, .slice p9892 x9890.length c9893), (1, .slice p9897 x9895.length c9898), (5, .int .i64 (w64 (s9913 + 1)))] w9927 (by kernel_rfl) ?_
      refine W_nil ?_
      obtain rfl := Option.some.inj hm
      exact N_loop fun a ha => ⟨_, rfl, M9928.pick [] (by kernel_rfl), ha.sub (by kernel_rfl)⟩
    refine G_cond_f (b := (decide (s9913 < (x9890.length : Int)))) hc9924 (by kernel_rfl) ?_
    refine G_exit ?_
    refine N_then_exit ?_
    refine N_then_exit ?_
    refine N_block_eq ?_
    obtain rfl := Option.some.inj hm
    obtain rfl := hout9915 _ rfl
    exact N_meet fun a ha => ⟨_, rfl, M9918.pick [] (by kernel_rfl), ha.sub (by kernel_rfl)⟩
  intro a9930 w9931 ⟨o9923, hout_, M9932, hS9933⟩
  refine N_use hS9933 ?_
  subst hout_
  have hm := hmo9922; simp only [Sum.elim_inl] at hm
  refine N_then ?_
  refine G_seq ?_
  refine G_region ?_
  refine W_run 1 [(4, .bool true)] w9931 (by kernel_rfl) ?_
  refine W_nil ?_
  refine N_then ?_
  refine G_ret ?_
  obtain rfl := Option.some.inj hm
  refine N_ret [.bool true] (RVs_cons (RV_tmp (by kernel_rfl)) RVs_nil) ?_
  exact ⟨rfl, M9932.pick [] (by kernel_rfl)⟩
theorem c_l_markStringS (w : World) (x10008 : List ByteArray) (p10010 : Option Addr) (c10011 : Nat) (sg10012 : Seg) (ho10013 : ownS Gx.encS x10008 p10010 c10011 sg10012) (x10014 : Int) (hA : ∀ q ∈ List.flatten [sg10012], w.heap[q.1]? = some q.2) (hN : (idsOf [sg10012]).Nodup) {r : Int × (List ByteArray)} (hm : M.l_markStringS x10008 x10014 = some r) :
    Calls Try.prog 40 #[.slice p10010 x10008.length c10011, .int .i64 x10014] w fun e w' => ∃ (sg10015 : Seg), e = .returned (.int .i64 r.1) ∧ ownS Gx.encS r.2 p10010 c10011 sg10015 ∧ r.2.length = x10008.length ∧ Mem (idsOf [sg10012]) w w' [sg10015] := by
  unfold M.l_markStringS at hm
  refine C_enter Try.func40 rfl (by kernel_rfl) ?_
  have M0 := Mem.start' w [sg10012] hA hN
  refine G_seq ?_
  refine G_region ?_
  refine W_run 1 [(0, .slice p10010 x10008.length c10011), (1, .int .i64 x10014)] w (by kernel_rfl) ?_
  refine W_nil ?_
  refine N_then ?_
  refine G_seq ?_
  refine G_seq ?_
  refine G_region ?_
  refine W_run 1 [(0, .slice p10010 x10008.length c10011), (1, .int .i64 x10014), (5, .int .i64 0)] w (by kernel_rfl) ?_
  refine W_nil ?_
  refine N_then ?_
  obtain ⟨out10046, hw10047, hmo10048⟩ := gx_bind hm
  refine G_meet (fun a w' => ∃ (sg10053 : Seg), ownS Gx.encS out10046.2 p10010 c10011 sg10053 ∧ out10046.2.length = x10008.length ∧ Mem (idsOf [sg10012]) w w' [sg10053] ∧ Sat Try.f40.ntmps [(1, .int .i64 out10046.1)] a) ?_ ?_
  · refine G_block ?_
    refine G_while (σ := Int × Int × List ByteArray) (ρ := Int × List ByteArray) (fun s10039 a w' => ∃ (sg10049 : Seg), ownS Gx.encS s10039.2.2 p10010 c10011 sg10049 ∧ s10039.2.2.length = x10008.length ∧ Mem (idsOf [sg10012]) w w' [sg10049] ∧ Sat Try.f40.ntmps [(0, .slice p10010 s10039.2.2.length c10011), (1, .int .i64 s10039.1), (5, .int .i64 s10039.2.1)] a) hw10047 (fun a ha => ⟨sg10012, ho10013, rfl, M0.pick [0] (by kernel_rfl), ha.sub (by kernel_rfl)⟩) ?_
    clear hm
    intro s10039 x10040 hm hout10041 a10042 w10043 ⟨sg10049, ho10050, hl10051, M10044, hS10045⟩
    refine G_use hS10045 ?_
    refine G_seq ?_
    refine G_seq ?_
    refine G_region ?_
    refine W_run 4 [(0, .slice p10010 s10039.2.2.length c10011), (1, .int .i64 s10039.1), (5, .int .i64 s10039.2.1), (9, .bool (decide (s10039.2.1 < (s10039.2.2.length : Int))))] w10043 (by kernel_rfl) ?_
    refine W_nil ?_
    refine N_then ?_
    rcases gx_bif hm with ⟨hc10056, hm⟩ | ⟨hc10056, hm⟩
    · refine G_cond_t (b := (decide (s10039.2.1 < (s10039.2.2.length : Int)))) hc10056 (by kernel_rfl) ?_
      refine G_skip ?_
      refine N_then ?_
      refine G_seq ?_
      refine G_block ?_
      refine G_seq ?_
      refine G_region ?_
      refine W_run 3 [(0, .slice p10010 s10039.2.2.length c10011), (1, .int .i64 s10039.1), (5, .int .i64 s10039.2.1), (12, .slice p10010 s10039.2.2.length c10011), (13, .int .i64 s10039.2.1), (14, .int .i64 s10039.1)] w10043 (by kernel_rfl) ?_
      obtain ⟨r10057, hr10057, hm⟩ := gx_bind hm
      refine W_call 64 #[.int .i64 s10039.1] (by kernel_rfl) (by kernel_rfl) ?_
      refine (c_l_markText w10043 s10039.1 hr10057).mono ?_
      rintro e_ w10058 ⟨rfl, K10059⟩
      have M10060 := M10044.call0 K10059
      refine ⟨_, rfl, ?_⟩
      obtain ⟨y10061, hy10061, hm⟩ := gx_bind hm
      refine W_val (elemP p10010 (s10039.2.1.toNat * 1)) w10058 (by kernel_rfl) (E_index (E := Gx.encS) _ _ _ s10039.2.2.length c10011 .i64 s10039.2.1 1 (y := y10061) rfl (by kernel_rfl) (by kernel_rfl) (by kernel_rfl) (ho10050.rd M10060 0 (by kernel_rfl)) rfl hy10061) ?_
      refine W_storeE (E := Gx.encS) _ _ _ false 1 s10039.2.1.toNat 0 (s10039.2.1.toNat * 1) y10061 r10057 (.string r10057) 0 M10060 ho10050 (by kernel_rfl) (by kernel_rfl) rfl (by kernel_rfl) (by kernel_rfl) (by kernel_rfl) (by kernel_rfl) (by kernel_rfl) (by kernel_rfl) (by kernel_rfl) (gxIdx_spec hy10061).2 rfl ?_
      intro w10062 sg10064 ho10065 M10063
      refine W_conv 0 (.slice p10010 s10039.2.2.length c10011) (.slice p10010 (s10039.2.2.set s10039.2.1.toNat r10057).length c10011) (by kernel_rfl) (by rw [@List.length_set _ s10039.2.2 s10039.2.1.toNat r10057]) ?_
      refine W_conv 12 (.slice p10010 s10039.2.2.length c10011) (.slice p10010 (s10039.2.2.set s10039.2.1.toNat r10057).length c10011) (by kernel_rfl) (by rw [@List.length_set _ s10039.2.2 s10039.2.1.toNat r10057]) ?_
      refine W_nil ?_
      refine N_then ?_
      refine G_region ?_
      refine W_run 3 [(0, .slice p10010 (s10039.2.2.set s10039.2.1.toNat r10057).length c10011), (1, .int .i64 (w64 (s10039.1 + 1))), (5, .int .i64 s10039.2.1)] w10062 (by kernel_rfl) ?_
      refine W_nil ?_
      refine N_block ?_
      refine N_then ?_
      refine G_region ?_
      refine W_run 3 [(0, .slice p10010 (s10039.2.2.set s10039.2.1.toNat r10057).length c10011), (1, .int .i64 (w64 (s10039.1 + 1))), (5, .int .i64 (w64 (s10039.2.1 + 1)))] w10062 (by kernel_rfl) ?_
      refine W_nil ?_
      obtain rfl := Option.some.inj hm
      exact N_loop fun a ha => ⟨_, rfl, sg10064, ho10065, (List.length_set.trans hl10051), M10063.pick [0] (by kernel_rfl), ha.sub (by kernel_rfl)⟩
    refine G_cond_f (b := (decide (s10039.2.1 < (s10039.2.2.length : Int)))) hc10056 (by kernel_rfl) ?_
    refine G_exit ?_
    refine N_then_exit ?_
    refine N_then_exit ?_
    refine N_block_eq ?_
    obtain rfl := Option.some.inj hm
    obtain rfl := hout10041 _ rfl
    exact N_meet fun a ha => ⟨sg10049, ho10050, hl10051, M10044.pick [0] (by kernel_rfl), ha.sub (by kernel_rfl)⟩
  intro a10066 w10067 ⟨sg10053, ho10054, hl10055, M10068, hS10069⟩
  refine N_use hS10069 ?_
  have hm := hmo10048
  refine N_then ?_
  refine G_seq ?_
  refine G_region ?_
  refine W_run 2 [(4, .int .i64 out10046.1)] w10067 (by kernel_rfl) ?_
  refine W_nil ?_
  refine N_then ?_
  refine G_ret ?_
  obtain rfl := Option.some.inj hm
  refine N_ret [.int .i64 out10046.1] (RVs_cons (RV_tmp (by kernel_rfl)) RVs_nil) ?_
  exact ⟨sg10053, rfl, ho10054, hl10055, M10068.pick [0] (by kernel_rfl)⟩
theorem c_l_markIntS (w : World) (x10077 : List Int) (p10079 : Option Addr) (c10080 : Nat) (sg10081 : Seg) (ho10082 : ownS Gx.encI x10077 p10079 c10080 sg10081) (x10083 : Int) (hA : ∀ q ∈ List.flatten [sg10081], w.heap[q.1]? = some q.2) (hN : (idsOf [sg10081]).Nodup) {r : Int × (List Int)} (hm : M.l_markIntS x10077 x10083 = some r) :
    Calls Try.prog 41 #[.slice p10079 x10077.length c10080, .int .i64 x10083] w fun e w' => ∃ (sg10084 : Seg), e = .returned (.int .i64 r.1) ∧ ownS Gx.encI r.2 p10079 c10080 sg10084 ∧ r.2.length = x10077.length ∧ Mem (idsOf [sg10081]) w w' [sg10084] := by
  unfold M.l_markIntS at hm
  refine C_enter Try.func41 rfl (by kernel_rfl) ?_
  have M0 := Mem.start' w [sg10081] hA hN
  refine G_seq ?_
  refine G_region ?_
  refine W_run 1 [(0, .slice p10079 x10077.length c10080), (1, .int .i64 x10083)] w (by kernel_rfl) ?_
  refine W_nil ?_
  refine N_then ?_
  refine G_seq ?_
  refine G_seq ?_
  refine G_region ?_
  refine W_run 1 [(0, .slice p10079 x10077.length c10080), (1, .int .i64 x10083), (5, .int .i64 0)] w (by kernel_rfl) ?_
  refine W_nil ?_
  refine N_then ?_
  obtain ⟨out10107, hw10108, hmo10109⟩ := gx_bind hm
  refine G_meet (fun a w' => ∃ (sg10114 : Seg), ownS Gx.encI out10107.2 p10079 c10080 sg10114 ∧ out10107.2.length = x10077.length ∧ Mem (idsOf [sg10081]) w w' [sg10114] ∧ Sat Try.f41.ntmps [(1, .int .i64 out10107.1)] a) ?_ ?_
  · refine G_block ?_
    refine G_while (σ := Int × Int × List Int) (ρ := Int × List Int) (fun s10100 a w' => ∃ (sg10110 : Seg), ownS Gx.encI s10100.2.2 p10079 c10080 sg10110 ∧ s10100.2.2.length = x10077.length ∧ Mem (idsOf [sg10081]) w w' [sg10110] ∧ Sat Try.f41.ntmps [(0, .slice p10079 s10100.2.2.length c10080), (1, .int .i64 s10100.1), (5, .int .i64 s10100.2.1)] a) hw10108 (fun a ha => ⟨sg10081, ho10082, rfl, M0.pick [0] (by kernel_rfl), ha.sub (by kernel_rfl)⟩) ?_
    clear hm
    intro s10100 x10101 hm hout10102 a10103 w10104 ⟨sg10110, ho10111, hl10112, M10105, hS10106⟩
    refine G_use hS10106 ?_
    refine G_seq ?_
    refine G_seq ?_
    refine G_region ?_
    refine W_run 4 [(0, .slice p10079 s10100.2.2.length c10080), (1, .int .i64 s10100.1), (5, .int .i64 s10100.2.1), (9, .bool (decide (s10100.2.1 < (s10100.2.2.length : Int))))] w10104 (by kernel_rfl) ?_
    refine W_nil ?_
    refine N_then ?_
    rcases gx_bif hm with ⟨hc10117, hm⟩ | ⟨hc10117, hm⟩
    · refine G_cond_t (b := (decide (s10100.2.1 < (s10100.2.2.length : Int)))) hc10117 (by kernel_rfl) ?_
      refine G_skip ?_
      refine N_then ?_
      refine G_seq ?_
      refine G_block ?_
      refine G_seq ?_
      refine G_region ?_
      refine W_run 3 [(0, .slice p10079 s10100.2.2.length c10080), (1, .int .i64 s10100.1), (5, .int .i64 s10100.2.1), (12, .slice p10079 s10100.2.2.length c10080), (13, .int .i64 s10100.2.1), (14, .int .i64 s10100.1)] w10104 (by kernel_rfl) ?_
      obtain ⟨y10118, hy10118, hm⟩ := gx_bind hm
      refine W_val (elemP p10079 (s10100.2.1.toNat * 1)) w10104 (by kernel_rfl) (E_index (E := Gx.encI) _ _ _ s10100.2.2.length c10080 .i64 s10100.2.1 1 (y := y10118) rfl (by kernel_rfl) (by kernel_rfl) (by kernel_rfl) (ho10111.rd M10105 0 (by kernel_rfl)) rfl hy10118) ?_
      refine W_storeE (E := Gx.encI) _ _ _ false 1 s10100.2.1.toNat 0 (s10100.2.1.toNat * 1) y10118 s10100.1 (.int .i64 s10100.1) 0 M10105 ho10111 (by kernel_rfl) (by kernel_rfl) rfl (by kernel_rfl) (by kernel_rfl) (by kernel_rfl) (by kernel_rfl) (by kernel_rfl) (by kernel_rfl) (by kernel_rfl) (gxIdx_spec hy10118).2 rfl ?_
      intro w10119 sg10121 ho10122 M10120
      refine W_conv 0 (.slice p10079 s10100.2.2.length c10080) (.slice p10079 (s10100.2.2.set s10100.2.1.toNat s10100.1).length c10080) (by kernel_rfl) (by rw [@List.length_set _ s10100.2.2 s10100.2.1.toNat s10100.1]) ?_
      refine W_conv 12 (.slice p10079 s10100.2.2.length c10080) (.slice p10079 (s10100.2.2.set s10100.2.1.toNat s10100.1).length c10080) (by kernel_rfl) (by rw [@List.length_set _ s10100.2.2 s10100.2.1.toNat s10100.1]) ?_
      refine W_nil ?_
      refine N_then ?_
      refine G_region ?_
      refine W_run 3 [(0, .slice p10079 (s10100.2.2.set s10100.2.1.toNat s10100.1).length c10080), (1, .int .i64 (w64 (s10100.1 + 1))), (5, .int .i64 s10100.2.1)] w10119 (by kernel_rfl) ?_
      refine W_nil ?_
      refine N_block ?_
      refine N_then ?_
      refine G_region ?_
      refine W_run 3 [(0, .slice p10079 (s10100.2.2.set s10100.2.1.toNat s10100.1).length c10080), (1, .int .i64 (w64 (s10100.1 + 1))), (5, .int .i64 (w64 (s10100.2.1 + 1)))] w10119 (by kernel_rfl) ?_
      refine W_nil ?_
      obtain rfl := Option.some.inj hm
      exact N_loop fun a ha => ⟨_, rfl, sg10121, ho10122, (List.length_set.trans hl10112), M10120.pick [0] (by kernel_rfl), ha.sub (by kernel_rfl)⟩
    refine G_cond_f (b := (decide (s10100.2.1 < (s10100.2.2.length : Int)))) hc10117 (by kernel_rfl) ?_
    refine G_exit ?_
    refine N_then_exit ?_
    refine N_then_exit ?_
    refine N_block_eq ?_
    obtain rfl := Option.some.inj hm
    obtain rfl := hout10102 _ rfl
    exact N_meet fun a ha => ⟨sg10110, ho10111, hl10112, M10105.pick [0] (by kernel_rfl), ha.sub (by kernel_rfl)⟩
  intro a10123 w10124 ⟨sg10114, ho10115, hl10116, M10125, hS10126⟩
  refine N_use hS10126 ?_
  have hm := hmo10109
  refine N_then ?_
  refine G_seq ?_
  refine G_region ?_
  refine W_run 2 [(4, .int .i64 out10107.1)] w10124 (by kernel_rfl) ?_
  refine W_nil ?_
  refine N_then ?_
  refine G_ret ?_
  obtain rfl := Option.some.inj hm
  refine N_ret [.int .i64 out10107.1] (RVs_cons (RV_tmp (by kernel_rfl)) RVs_nil) ?_
  exact ⟨sg10114, rfl, ho10115, hl10116, M10125.pick [0] (by kernel_rfl)⟩
theorem c_l_heldStringS (w : World) (x10134 : List ByteArray) (p10136 : Option Addr) (c10137 : Nat) (h10138 : rdS Gx.encS w x10134 p10136 c10137) (x10139 : Int) {r : Int} (hm : M.l_heldStringS x10134 x10139 = some r) :
    Calls Try.prog 42 #[.slice p10136 x10134.length c10137, .int .i64 x10139] w fun e w' => e = .returned (.int .i64 r) ∧ Mem [] w w' [] := by
  unfold M.l_heldStringS at hm
  refine C_enter Try.func42 rfl (by kernel_rfl) ?_
  have M0 := Mem.refl [] w
  refine G_seq ?_
  refine G_region ?_
  refine W_run 1 [(0, .slice p10136 x10134.length c10137), (1, .int .i64 x10139)] w (by kernel_rfl) ?_
  refine W_nil ?_
  refine N_then ?_
  refine G_seq ?_
  refine G_seq ?_
  refine G_region ?_
  refine W_run 1 [(0, .slice p10136 x10134.length c10137), (1, .int .i64 x10139), (5, .int .i64 0)] w (by kernel_rfl) ?_
  refine W_nil ?_
  refine N_then ?_
  obtain ⟨out10165, hw10166, hmo10167⟩ := gx_bind hm
  refine G_meet (fun a w' => ∃ (o10168 : Int), out10165 = .inl o10168 ∧ Mem [] w w' [] ∧ Sat Try.f42.ntmps [(1, .int .i64 o10168)] a) ?_ ?_
  · refine G_block ?_
    refine G_while (σ := Int × Int) (ρ := (Int) ⊕ (Int)) (fun s10158 a w' => Mem [] w w' [] ∧ Sat Try.f42.ntmps [(0, .slice p10136 x10134.length c10137), (1, .int .i64 s10158.1), (5, .int .i64 s10158.2)] a) hw10166 (fun a ha => ⟨M0.pick [] (by kernel_rfl), ha.sub (by kernel_rfl)⟩) ?_
    clear hm
    intro s10158 x10159 hm hout10160 a10161 w10162 ⟨M10163, hS10164⟩
    refine G_use hS10164 ?_
    refine G_seq ?_
    refine G_seq ?_
    refine G_region ?_
    refine W_run 4 [(0, .slice p10136 x10134.length c10137), (1, .int .i64 s10158.1), (5, .int .i64 s10158.2), (9, .bool (decide (s10158.2 < (x10134.length : Int))))] w10162 (by kernel_rfl) ?_
    refine W_nil ?_
    refine N_then ?_
    rcases gx_bif hm with ⟨hc10169, hm⟩ | ⟨hc10169, hm⟩
    · refine G_cond_t (b := (decide (s10158.2 < (x10134.length : Int)))) hc10169 (by kernel_rfl) ?_
      refine G_skip ?_
      refine N_then ?_
      refine G_seq ?_
      refine G_block ?_
      refine G_seq ?_
      refine G_seq ?_
      refine G_quiet (by kernel_rfl) (by kernel_rfl) M10163 ?_
      refine Z_runs [.slice p10136 x10134.length c10137, .int .i64 s10158.2] [(0, .slice p10136 x10134.length c10137), (1, .int .i64 s10158.1), (5, .int .i64 s10158.2), (12, .slice p10136 x10134.length c10137), (13, .int .i64 s10158.2)] (fun w_ => by kernel_rfl) (by kernel_rfl) ?_
      obtain ⟨y10170, hy10170, hm⟩ := gx_bind hm
      refine Z_val (elemP p10136 (s10158.2.toNat * 1)) (by kernel_rfl) (fun w_ M_ => (E_index (E := Gx.encS) _ _ _ x10134.length c10137 .i64 s10158.2 1 (y := y10170) rfl (by kernel_rfl) (by kernel_rfl) (by kernel_rfl) (h10138.mem0 M_) rfl hy10170)) ?_
      refine Z_val (.string y10170) (by kernel_rfl) (fun w_ M_ => (E_loadE (E := Gx.encS) _ _ false 1 s10158.2 0 (s10158.2.toNat * 1) y10170 (.string y10170) rfl (by kernel_rfl) (by kernel_rfl) (by kernel_rfl) (h10138.mem0 M_) hy10170 rfl)) ?_
      refine Z_runs [.int .i64 s10158.1] [(0, .slice p10136 x10134.length c10137), (1, .int .i64 s10158.1), (5, .int .i64 s10158.2), (15, .string y10170), (16, .int .i64 s10158.1)] (fun w_ => by kernel_rfl) (by kernel_rfl) ?_
      obtain ⟨r10171, hr10171, hm⟩ := gx_bind hm
      refine Z_call 64 #[.int .i64 s10158.1] (.string r10171) (by kernel_rfl) (fun w_ => by kernel_rfl) (fun w_ M_ => (c_l_markText w_ s10158.1 hr10171).mono fun e w2_ h_ => ⟨h_.1, M_.call0 h_.2⟩) ?_
      refine Z_runs [.bool (!(y10170.toList == r10171.toList))] [(0, .slice p10136 x10134.length c10137), (1, .int .i64 s10158.1), (5, .int .i64 s10158.2), (18, .bool (!(y10170.toList == r10171.toList)))] (fun w_ => by kernel_rfl) (by kernel_rfl) ?_
      refine Z_end fun w10175 M10176 => ?_
      refine N_then ?_
      rcases gx_bif hm with ⟨hc10177, hm⟩ | ⟨hc10177, hm⟩
      · refine G_cond_t (b := (!(y10170.toList == r10171.toList))) hc10177 (by kernel_rfl) ?_
        refine G_seq ?_
        refine G_region ?_
        refine W_run 1 [(4, .int .i64 (-1))] w10175 (by kernel_rfl) ?_
        refine W_nil ?_
        refine N_then ?_
        refine G_ret ?_
        refine N_then_ret ?_
        refine N_block_ret ?_
        refine N_then_ret ?_
        refine N_then_ret ?_
        obtain rfl := Option.some.inj hm
        obtain rfl := hout10160 _ rfl
        have hm := hmo10167; simp only [Sum.elim_inr] at hm
        refine N_block_ret ?_
        refine N_meet_ret ?_
        refine N_then_ret ?_
        obtain rfl := Option.some.inj hm
        refine N_ret [.int .i64 (-1)] (RVs_cons (RV_tmp (by kernel_rfl)) RVs_nil) ?_
        exact ⟨rfl, M10176.pick [] (by kernel_rfl)⟩
      refine G_cond_f (b := (!(y10170.toList == r10171.toList))) hc10177 (by kernel_rfl) ?_
      refine G_skip ?_
      refine N_then ?_
      refine G_region ?_
      refine W_run 3 [(0, .slice p10136 x10134.length c10137), (1, .int .i64 (w64 (s10158.1 + 1))), (5, .int .i64 s10158.2)] w10175 (by kernel_rfl) ?_
      refine W_nil ?_
      refine N_block ?_
      refine N_then ?_
      refine G_region ?_
      refine W_run 3 [(0, .slice p10136 x10134.length c10137), (1, .int .i64 (w64 (s10158.1 + 1))), (5, .int .i64 (w64 (s10158.2 + 1)))] w10175 (by kernel_rfl) ?_
      refine W_nil ?_
      obtain rfl := Option.some.inj hm
      exact N_loop fun a ha => ⟨_, rfl, M10176.pick [] (by kernel_rfl), ha.sub (by kernel_rfl)⟩
    refine G_cond_f (b := (decide (s10158.2 < (x10134.length : Int)))) hc10169 (by kernel_rfl) ?_
    refine G_exit ?_
    refine N_then_exit ?_
    refine N_then_exit ?_
    refine N_block_eq ?_
    obtain rfl := Option.some.inj hm
    obtain rfl := hout10160 _ rfl
    exact N_meet fun a ha => ⟨_, rfl, M10163.pick [] (by kernel_rfl), ha.sub (by kernel_rfl)⟩
  intro a10178 w10179 ⟨o10168, hout_, M10180, hS10181⟩
  refine N_use hS10181 ?_
  subst hout_
  have hm := hmo10167; simp only [Sum.elim_inl] at hm
  refine N_then ?_
  refine G_seq ?_
  refine G_region ?_
  refine W_run 2 [(4, .int .i64 o10168)] w10179 (by kernel_rfl) ?_
  refine W_nil ?_
  refine N_then ?_
  refine G_ret ?_
  obtain rfl := Option.some.inj hm
  refine N_ret [.int .i64 o10168] (RVs_cons (RV_tmp (by kernel_rfl)) RVs_nil) ?_
  exact ⟨rfl, M10180.pick [] (by kernel_rfl)⟩
end Go.Proofs.Ytfcebglkdfadcaa
