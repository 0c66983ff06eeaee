/- The walks, printed by program: whenever the model gives r, the call returns r. Part 3. -/
import Derived.Test.YtopnablbecepjaaM
import Derived.Test.YtopnablbecepjaaProg
import Derived.Test.YtopnablbecepjaaC2
set_option linter.unusedVariables false
set_option maxRecDepth 100000
set_option maxHeartbeats 4000000
namespace Go.Proofs.Ytopnablbecepjaa
open Go.Gx
theorem c_i_TakeWord (w : World) (x3283 : Ring) (p3285 : Option Addr) (c3286 : Nat) (h3287 : rdS encI w x3283.Items p3285 c3286) {r : Ring × Int × Bool} (hm : M.i_TakeWord x3283 = some r) :
    Calls Try.prog 33 #[.agg #[.slice p3285 x3283.Items.length c3286, .int .i64 x3283.Head, .int .i64 x3283.Tail]] w fun e w' => ∃ (p3289 : Option Addr) (c3290 : Nat) (sg3291 : Seg), e = .returned (.tuple #[.agg #[.slice p3289 r.1.Items.length c3290, .int .i64 r.1.Head, .int .i64 r.1.Tail], .int .i64 r.2.1, .bool r.2.2]) ∧ ownS encI r.1.Items p3289 c3290 sg3291 ∧ Mem [] w w' [sg3291] := by
  unfold M.i_TakeWord at hm
  refine C_enter Try.func33 rfl (by kernel_rfl) ?_
  have M0 := Mem.refl [] w
  refine G_seq ?_
  refine G_region ?_
  refine W_new (fun b => .pointer (some ⟨b, 0, none⟩)) (.cells ⟨[.slice p3285 x3283.Items.length c3286, .int .i64 x3283.Head, .int .i64 x3283.Tail]⟩ 27 (0, 0)) M0 rfl (by kernel_rfl) (by kernel_rfl) ?_
  intro b3293 w3294 M3295
  refine W_new (fun b => .pointer (some ⟨b, 0, none⟩)) (.cells ⟨[.slice none 0 0, .int .i64 0, .int .i64 0]⟩ 27 (0, 0)) M3295 rfl (by kernel_rfl) (by kernel_rfl) ?_
  intro b3298 w3299 M3300
  refine W_run 2 [(1, .pointer (some ⟨b3293, 0, none⟩)), (2, .pointer (some ⟨b3298, 0, none⟩))] w3299 (by kernel_rfl) ?_
  refine W_nil ?_
  refine N_then ?_
  refine G_seq ?_
  refine G_region ?_
  refine W_val (.agg #[.slice p3285 x3283.Items.length c3286, .int .i64 x3283.Head, .int .i64 x3283.Tail]) w3299 (by kernel_rfl) (E_load (e := 27) (fr := (0, 0)) _ _ true 3 b3293 0 [.slice p3285 x3283.Items.length c3286, .int .i64 x3283.Head, .int .i64 x3283.Tail] (.agg #[.slice p3285 x3283.Items.length c3286, .int .i64 x3283.Head, .int .i64 x3283.Tail]) rfl (by kernel_rfl) (by kernel_rfl) (by kernel_rfl) (M3300.blk 0 (b := b3293) (o := .cells ⟨[.slice p3285 x3283.Items.length c3286, .int .i64 x3283.Head, .int .i64 x3283.Tail]⟩ 27 (0, 0)) (by kernel_rfl))) ?_
  obtain ⟨r3301, hr3301, hm⟩ := gx_bind hm
  refine W_call 31 #[.agg #[.slice p3285 x3283.Items.length c3286, .int .i64 x3283.Head, .int .i64 x3283.Tail], .int .i64 1] (by kernel_rfl) (by kernel_rfl) ?_
  refine (c_i_TakeWords w3299 x3283 p3285 c3286 (h3287.mem0 M3300) 1 hr3301).mono ?_
  rintro e_ w3312 ⟨p3303, c3304, sg3305, p3308, c3309, sg3310, rfl, ho3306, ho3311, K3313⟩
  have M3314 := M3300.call K3313
  refine ⟨_, rfl, ?_⟩
  refine W_run 4 [(2, .pointer (some ⟨b3298, 0, none⟩)), (11, .agg #[.slice p3303 r3301.1.Items.length c3304, .int .i64 r3301.1.Head, .int .i64 r3301.1.Tail]), (12, .slice p3308 r3301.2.1.length c3309), (13, .bool r3301.2.2)] w3312 (by kernel_rfl) ?_
  refine W_new (fun b => .pointer (some ⟨b, 0, none⟩)) (.cells ⟨[.slice none 0 0, .int .i64 0, .int .i64 0]⟩ 27 (0, 0)) M3314 rfl (by kernel_rfl) (by kernel_rfl) ?_
  intro b3317 w3318 M3319
  refine W_store _ _ _ true 3 b3317 0 [.slice none 0 0, .int .i64 0, .int .i64 0] 27 (.agg #[.slice p3303 r3301.1.Items.length c3304, .int .i64 r3301.1.Head, .int .i64 r3301.1.Tail]) 4 [.slice p3303 r3301.1.Items.length c3304, .int .i64 r3301.1.Head, .int .i64 r3301.1.Tail] M3319 (by kernel_rfl) rfl (by kernel_rfl) (by kernel_rfl) (by kernel_rfl) (by kernel_rfl) (by kernel_rfl) (by kernel_rfl) (by kernel_rfl) (by kernel_rfl) ?_
  intro w3320 M3321
  refine W_run 2 [(2, .pointer (some ⟨b3298, 0, none⟩)), (5, .pointer (some ⟨b3317, 0, none⟩)), (6, .slice p3308 r3301.2.1.length c3309), (7, .bool r3301.2.2)] w3320 (by kernel_rfl) ?_
  refine W_nil ?_
  refine N_then ?_
  refine G_seq ?_
  refine G_seq ?_
  obtain ⟨o3323, ho3324, hm3325⟩ := gx_bind hm
  refine G_meet (fun a w' => Mem [] w w' [[(b3298, .cells ⟨[.slice none 0 0, .int .i64 0, .int .i64 0]⟩ 27 (0, 0))], sg3305, sg3310, [(b3317, .cells ⟨[.slice p3303 r3301.1.Items.length c3304, .int .i64 r3301.1.Head, .int .i64 r3301.1.Tail]⟩ 27 (0, 0))]] ∧ Sat Try.f33.ntmps [(2, .pointer (some ⟨b3298, 0, none⟩)), (5, .pointer (some ⟨b3317, 0, none⟩)), (6, .slice p3308 r3301.2.1.length c3309), (20, .bool o3323)] a) ?_ ?_
  · have hm := ho3324
    refine G_region ?_
    refine W_run 3 [(2, .pointer (some ⟨b3298, 0, none⟩)), (5, .pointer (some ⟨b3317, 0, none⟩)), (6, .slice p3308 r3301.2.1.length c3309), (16, .bool (!r3301.2.2))] w3320 (by kernel_rfl) ?_
    rcases gx_bif hm with ⟨hc3326, hm⟩ | ⟨hc3326, hm⟩
    · refine W_known 16 true (by kernel_rfl) hc3326 ?_
      refine W_run 4 [(2, .pointer (some ⟨b3298, 0, none⟩)), (5, .pointer (some ⟨b3317, 0, none⟩)), (6, .slice p3308 r3301.2.1.length c3309), (20, .bool true)] w3320 (by kernel_rfl) ?_
      refine W_nil ?_
      obtain rfl := Option.some.inj hm
      exact N_meet fun a ha => ⟨M3321.pick [1, 2, 3, 4] (by kernel_rfl), ha.sub (by kernel_rfl)⟩
    · refine W_known 16 false (by kernel_rfl) hc3326 ?_
      refine W_run 4 [(2, .pointer (some ⟨b3298, 0, none⟩)), (5, .pointer (some ⟨b3317, 0, none⟩)), (6, .slice p3308 r3301.2.1.length c3309), (20, .bool ((r3301.2.1.length : Int) == 0))] w3320 (by kernel_rfl) ?_
      refine W_nil ?_
      obtain rfl := Option.some.inj hm
      exact N_meet fun a ha => ⟨M3321.pick [1, 2, 3, 4] (by kernel_rfl), ha.sub (by kernel_rfl)⟩
  · intro a3329 w3327 ⟨M3328, hS3330⟩
    refine N_use hS3330 ?_
    have hm := hm3325
    refine N_then ?_
    rcases gx_bif hm with ⟨hc3331, hm⟩ | ⟨hc3331, hm⟩
    · refine G_cond_t (b := o3323) hc3331 (by kernel_rfl) ?_
      refine G_seq ?_
      refine G_region ?_
      refine W_run 1 [(2, .pointer (some ⟨b3298, 0, none⟩)), (21, .agg #[.slice none 0 0, .int .i64 0, .int .i64 0])] w3327 (by kernel_rfl) ?_
      refine W_store _ _ _ true 3 b3298 0 [.slice none 0 0, .int .i64 0, .int .i64 0] 27 (.agg #[.slice none 0 0, .int .i64 0, .int .i64 0]) 0 [.slice none 0 0, .int .i64 0, .int .i64 0] M3328 (by kernel_rfl) rfl (by kernel_rfl) (by kernel_rfl) (by kernel_rfl) (by kernel_rfl) (by kernel_rfl) (by kernel_rfl) (by kernel_rfl) (by kernel_rfl) ?_
      intro w3333 M3334
      refine W_run 2 [(2, .pointer (some ⟨b3298, 0, none⟩)), (3, .int .i64 0), (4, .bool false)] w3333 (by kernel_rfl) ?_
      refine W_nil ?_
      refine N_then ?_
      refine G_ret ?_
      refine N_then_ret ?_
      obtain rfl := Option.some.inj hm
      refine N_ret [.agg #[.slice none 0 0, .int .i64 0, .int .i64 0], .int .i64 0, .bool false] (RVs_cons (RV_cell (g := true) (k := 3) (b := b3298) (off := 0) (cs := [.slice none 0 0, .int .i64 0, .int .i64 0]) (e := 27) (fr := (0, 0)) (v := .agg #[.slice none 0 0, .int .i64 0, .int .i64 0]) (M3334.blk 0 (b := b3298) (o := .cells ⟨[.slice none 0 0, .int .i64 0, .int .i64 0]⟩ 27 (0, 0)) (by kernel_rfl)) (by kernel_rfl) (by kernel_rfl) (by kernel_rfl)) (RVs_cons (RV_tmp (by kernel_rfl)) (RVs_cons (RV_tmp (by kernel_rfl)) RVs_nil))) ?_
      exact ⟨none, 0, [], rfl, ownS_nil, M3334.pick [100000] (by kernel_rfl)⟩
    · refine G_cond_f (b := o3323) hc3331 (by kernel_rfl) ?_
      refine G_skip ?_
      refine N_then ?_
      refine G_seq ?_
      obtain ⟨y3337, hy3337, hm⟩ := gx_bind hm
      have M3338 : Mem [] w w3327 ([sg3305, sg3310, [(b3317, .cells ⟨[.slice p3303 r3301.1.Items.length c3304, .int .i64 r3301.1.Head, .int .i64 r3301.1.Tail]⟩ 27 (0, 0))]] ++ (List.range 5).map (fun i => ([[], [], [], [], [(b3298, .cells ⟨[.slice none 0 0, .int .i64 0, .int .i64 0]⟩ 27 (0, 0))]] : List Seg).getD i [])) := M3328.pick [1, 2, 3, 300000, 300001, 300002, 300003, 0] (by kernel_rfl)
      refine G_sub [(2, .pointer (some ⟨b3298, 0, none⟩)), (5, .pointer (some ⟨b3317, 0, none⟩)), (6, .slice p3308 r3301.2.1.length c3309), (20, .bool o3323)] (by kernel_rfl) ?_
      refine G_dagL 5 [[], [], [1], [2], [0]] [[], [], [], [], []] [[], [], [], [], []] [[], [], [], [], []] [[], [], [], [], []] [[], [], [], [], []] (fun i => ([[], [], [], [], [(b3298, .cells ⟨[.slice none 0 0, .int .i64 0, .int .i64 0]⟩ 27 (0, 0))]] : List Seg).getD i []) (fun i => ([fun f v s => v = (.agg #[.slice p3303 r3301.1.Items.length c3304, .int .i64 r3301.1.Head, .int .i64 r3301.1.Tail] : Value) ∧ s = [], fun f v s => v = (.slice p3308 r3301.2.1.length c3309 : Value) ∧ s = [], fun f v s => v = (elemP p3308 ((0 : Int).toNat * 1) : Value) ∧ s = [], fun f v s => v = (.int .i64 y3337 : Value) ∧ s = [], fun f v s => v = undef ∧ s = [(b3298, .cells ⟨[.slice p3303 r3301.1.Items.length c3304, .int .i64 r3301.1.Head, .int .i64 r3301.1.Tail]⟩ 27 (0, 0))]] : List ((Nat → Value) → Value → Seg → Prop)).getD i (fun _ _ _ => False)) (fun j f v => ∃ s, (fun i => ([fun f v s => v = (.agg #[.slice p3303 r3301.1.Items.length c3304, .int .i64 r3301.1.Head, .int .i64 r3301.1.Tail] : Value) ∧ s = [], fun f v s => v = (.slice p3308 r3301.2.1.length c3309 : Value) ∧ s = [], fun f v s => v = (elemP p3308 ((0 : Int).toNat * 1) : Value) ∧ s = [], fun f v s => v = (.int .i64 y3337 : Value) ∧ s = [], fun f v s => v = undef ∧ s = [(b3298, .cells ⟨[.slice p3303 r3301.1.Items.length c3304, .int .i64 r3301.1.Head, .int .i64 r3301.1.Tail]⟩ 27 (0, 0))]] : List ((Nat → Value) → Value → Seg → Prop)).getD i (fun _ _ _ => False)) j f v s) [] [3, 4] [4] (fun _ _ _ s h => ⟨s, h⟩) (by kernel_rfl) (by kernel_rfl) M3338 (by kernel_rfl) (by kernel_rfl) (by kernel_rfl) (by kernel_rfl) (allOb_cons ?_ (allOb_cons ?_ (allOb_cons ?_ (allOb_cons ?_ (allOb_cons ?_ allOb_nil))))) ?_
      · intro g3335 f3336
        intro R w3339 M3340
        refine W_val (.agg #[.slice p3303 r3301.1.Items.length c3304, .int .i64 r3301.1.Head, .int .i64 r3301.1.Tail]) w3339 (by kernel_rfl) (E_load (e := 27) (fr := (0, 0)) _ _ true 3 b3317 0 [.slice p3303 r3301.1.Items.length c3304, .int .i64 r3301.1.Head, .int .i64 r3301.1.Tail] (.agg #[.slice p3303 r3301.1.Items.length c3304, .int .i64 r3301.1.Head, .int .i64 r3301.1.Tail]) rfl (by kernel_rfl) (by kernel_rfl) (by kernel_rfl) (M3340.blk 2 (b := b3317) (o := .cells ⟨[.slice p3303 r3301.1.Items.length c3304, .int .i64 r3301.1.Head, .int .i64 r3301.1.Tail]⟩ 27 (0, 0)) (by kernel_rfl))) ?_
        exact W_nil (ob_end (.agg #[.slice p3303 r3301.1.Items.length c3304, .int .i64 r3301.1.Head, .int .i64 r3301.1.Tail]) [] rfl (by kernel_rfl) ⟨by kernel_rfl, rfl⟩ M3340)
      · intro g3335 f3336
        intro R w3343 M3344
        refine W_run 1 [(23, .slice p3308 r3301.2.1.length c3309)] w3343 (by kernel_rfl) ?_
        exact W_nil (ob_end (.slice p3308 r3301.2.1.length c3309) [] rfl (by kernel_rfl) ⟨by kernel_rfl, rfl⟩ M3344)
      · intro g3335 f3336
        intro v1_ hb1_
        obtain ⟨rfl, _⟩ := hb1_
        intro R w3347 M3348
        refine W_val (elemP p3308 ((0 : Int).toNat * 1)) w3347 (by kernel_rfl) (E_index (E := encI) _ _ _ r3301.2.1.length c3309 .i64 0 1 (y := y3337) rfl (by kernel_rfl) (by kernel_rfl) (by kernel_rfl) (ho3311.rd M3348 1 (by kernel_rfl)) rfl hy3337) ?_
        exact W_nil (ob_end (elemP p3308 ((0 : Int).toNat * 1)) [] rfl (by kernel_rfl) ⟨by kernel_rfl, rfl⟩ M3348)
      · intro g3335 f3336
        intro v2_ hb2_
        obtain ⟨rfl, _⟩ := hb2_
        intro R w3351 M3352
        refine W_val (.int .i64 y3337) w3351 (by kernel_rfl) (E_loadE (E := encI) _ _ false 1 0 0 ((0 : Int).toNat * 1) y3337 (.int .i64 y3337) rfl (by kernel_rfl) (by kernel_rfl) (by kernel_rfl) (ho3311.rd M3352 1 (by kernel_rfl)) hy3337 rfl) ?_
        exact W_nil (ob_end (.int .i64 y3337) [] rfl (by kernel_rfl) ⟨by kernel_rfl, rfl⟩ M3352)
      · intro g3335 f3336
        intro v0_ hb0_
        obtain ⟨rfl, _⟩ := hb0_
        intro R w3355 M3356
        refine W_store _ _ _ true 3 b3298 0 [.slice none 0 0, .int .i64 0, .int .i64 0] 27 (.agg #[.slice p3303 r3301.1.Items.length c3304, .int .i64 r3301.1.Head, .int .i64 r3301.1.Tail]) 3 [.slice p3303 r3301.1.Items.length c3304, .int .i64 r3301.1.Head, .int .i64 r3301.1.Tail] M3356 (by kernel_rfl) rfl (by kernel_rfl) (by kernel_rfl) (by kernel_rfl) (by kernel_rfl) (by kernel_rfl) (by kernel_rfl) (by kernel_rfl) (by kernel_rfl) ?_
        intro w3357 M3358
        exact W_nil (ob_none [(b3298, .cells ⟨[.slice p3303 r3301.1.Items.length c3304, .int .i64 r3301.1.Head, .int .i64 r3301.1.Tail]⟩ 27 (0, 0))] rfl ⟨rfl, by kernel_rfl⟩ M3358)
      · intro g3335 f3336
        intro v3_ hb3_
        obtain ⟨rfl, _⟩ := hb3_
        intro v4_ hb4_
        obtain ⟨rfl, hs4_⟩ := hb4_
        replace hs4_ := hs4_.trans (show _ = [(b3298, .cells ⟨[.slice p3303 r3301.1.Items.length c3304, .int .i64 r3301.1.Head, .int .i64 r3301.1.Tail]⟩ 27 (0, 0))] by kernel_rfl)
        intro w3359 M3360
        have M3361 : Mem [] w w3359 [sg3305, sg3310, [(b3317, .cells ⟨[.slice p3303 r3301.1.Items.length c3304, .int .i64 r3301.1.Head, .int .i64 r3301.1.Tail]⟩ 27 (0, 0))], (g3335 4)] := M3360
        rw [hs4_] at M3361
        refine W_run 2 [(2, .pointer (some ⟨b3298, 0, none⟩)), (3, .int .i64 y3337), (4, .bool true)] w3359 (by kernel_rfl) ?_
        refine W_nil ?_
        refine N_then ?_
        refine G_ret ?_
        obtain rfl := Option.some.inj hm
        refine N_ret [.agg #[.slice p3303 r3301.1.Items.length c3304, .int .i64 r3301.1.Head, .int .i64 r3301.1.Tail], .int .i64 y3337, .bool true] (RVs_cons (RV_cell (g := true) (k := 3) (b := b3298) (off := 0) (cs := [.slice p3303 r3301.1.Items.length c3304, .int .i64 r3301.1.Head, .int .i64 r3301.1.Tail]) (e := 27) (fr := (0, 0)) (v := .agg #[.slice p3303 r3301.1.Items.length c3304, .int .i64 r3301.1.Head, .int .i64 r3301.1.Tail]) (M3361.blk 3 (b := b3298) (o := .cells ⟨[.slice p3303 r3301.1.Items.length c3304, .int .i64 r3301.1.Head, .int .i64 r3301.1.Tail]⟩ 27 (0, 0)) (by kernel_rfl)) (by kernel_rfl) (by kernel_rfl) (by kernel_rfl)) (RVs_cons (RV_tmp (by kernel_rfl)) (RVs_cons (RV_tmp (by kernel_rfl)) RVs_nil))) ?_
        exact ⟨p3303, c3304, sg3305, rfl, ho3306, M3361.pick [0] (by kernel_rfl)⟩
theorem c_l_FnExactTakeWord (w : World) (x3163 : Ring) (p3165 : Option Addr) (c3166 : Nat) (h3167 : rdS encI w x3163.Items p3165 c3166) {r : Bool} (hm : M.l_FnExactTakeWord x3163 = some r) :
    Calls Try.prog 8 #[.agg #[.slice p3165 x3163.Items.length c3166, .int .i64 x3163.Head, .int .i64 x3163.Tail]] w fun e w' => e = .returned (.bool r) ∧ Mem [] w w' [] := by
  unfold M.l_FnExactTakeWord at hm
  refine C_enter Try.func8 rfl (by kernel_rfl) ?_
  have M0 := Mem.refl [] w
  refine G_seq ?_
  refine G_region ?_
  refine W_new (fun b => .pointer (some ⟨b, 0, none⟩)) (.cells ⟨[.slice p3165 x3163.Items.length c3166, .int .i64 x3163.Head, .int .i64 x3163.Tail]⟩ 33 (0, 0)) M0 rfl (by kernel_rfl) (by kernel_rfl) ?_
  intro b3169 w3170 M3171
  refine W_run 1 [(1, .pointer (some ⟨b3169, 0, none⟩))] w3170 (by kernel_rfl) ?_
  refine W_nil ?_
  refine N_then ?_
  refine G_seq ?_
  refine G_region ?_
  refine W_run 1 [(1, .pointer (some ⟨b3169, 0, none⟩)), (3, .int .i64 1048576)] w3170 (by kernel_rfl) ?_
  refine W_nil ?_
  refine N_then ?_
  refine G_seq ?_
  refine G_region ?_
  refine W_val (.agg #[.slice p3165 x3163.Items.length c3166, .int .i64 x3163.Head, .int .i64 x3163.Tail]) w3170 (by kernel_rfl) (E_load (e := 33) (fr := (0, 0)) _ _ true 3 b3169 0 [.slice p3165 x3163.Items.length c3166, .int .i64 x3163.Head, .int .i64 x3163.Tail] (.agg #[.slice p3165 x3163.Items.length c3166, .int .i64 x3163.Head, .int .i64 x3163.Tail]) rfl (by kernel_rfl) (by kernel_rfl) (by kernel_rfl) (M3171.blk 0 (b := b3169) (o := .cells ⟨[.slice p3165 x3163.Items.length c3166, .int .i64 x3163.Head, .int .i64 x3163.Tail]⟩ 33 (0, 0)) (by kernel_rfl))) ?_
  refine W_run 1 [(1, .pointer (some ⟨b3169, 0, none⟩)), (3, .int .i64 1048576), (17, .agg #[.slice p3165 x3163.Items.length c3166, .int .i64 x3163.Head, .int .i64 x3163.Tail]), (18, .int .i64 1048576)] w3170 (by kernel_rfl) ?_
  obtain ⟨r3172, hr3172, hm⟩ := gx_bind hm
  refine W_call 21 #[.agg #[.slice p3165 x3163.Items.length c3166, .int .i64 x3163.Head, .int .i64 x3163.Tail], .int .i64 1048576] (by kernel_rfl) (by kernel_rfl) ?_
  refine (c_l_szRing w3170 x3163 p3165 c3166 (h3167.mem0 M3171) 1048576 hr3172).mono ?_
  rintro e_ w3173 ⟨rfl, K3174⟩
  have M3175 := M3171.call0 K3174
  refine ⟨_, rfl, ?_⟩
  refine W_run 1 [(1, .pointer (some ⟨b3169, 0, none⟩)), (3, .int .i64 r3172)] w3173 (by kernel_rfl) ?_
  refine W_nil ?_
  refine N_then ?_
  refine G_seq ?_
  refine G_seq ?_
  refine G_region ?_
  refine W_run 2 [(1, .pointer (some ⟨b3169, 0, none⟩)), (21, .bool (decide (r3172 < 0)))] w3173 (by kernel_rfl) ?_
  refine W_nil ?_
  refine N_then ?_
  rcases gx_bif hm with ⟨hc3176, hm⟩ | ⟨hc3176, hm⟩
  · refine G_cond_t (b := (decide (r3172 < 0))) hc3176 (by kernel_rfl) ?_
    refine G_seq ?_
    refine G_region ?_
    refine W_run 1 [(2, .bool true)] w3173 (by kernel_rfl) ?_
    refine W_nil ?_
    refine N_then ?_
    refine G_ret ?_
    refine N_then_ret ?_
    obtain rfl := Option.some.inj hm
    refine N_ret [.bool true] (RVs_cons (RV_tmp (by kernel_rfl)) RVs_nil) ?_
    exact ⟨rfl, M3175.pick [] (by kernel_rfl)⟩
  · refine G_cond_f (b := (decide (r3172 < 0))) hc3176 (by kernel_rfl) ?_
    refine G_skip ?_
    refine N_then ?_
    refine G_seq ?_
    refine G_region ?_
    refine W_val (.agg #[.slice p3165 x3163.Items.length c3166, .int .i64 x3163.Head, .int .i64 x3163.Tail]) w3173 (by kernel_rfl) (E_load (e := 33) (fr := (0, 0)) _ _ true 3 b3169 0 [.slice p3165 x3163.Items.length c3166, .int .i64 x3163.Head, .int .i64 x3163.Tail] (.agg #[.slice p3165 x3163.Items.length c3166, .int .i64 x3163.Head, .int .i64 x3163.Tail]) rfl (by kernel_rfl) (by kernel_rfl) (by kernel_rfl) (M3175.blk 0 (b := b3169) (o := .cells ⟨[.slice p3165 x3163.Items.length c3166, .int .i64 x3163.Head, .int .i64 x3163.Tail]⟩ 33 (0, 0)) (by kernel_rfl))) ?_
    obtain ⟨r3177, hr3177, hm⟩ := gx_bind hm
    refine W_call 23 #[.agg #[.slice p3165 x3163.Items.length c3166, .int .i64 x3163.Head, .int .i64 x3163.Tail]] (by kernel_rfl) (by kernel_rfl) ?_
    refine (c_l_toRing w3173 x3163 p3165 c3166 (h3167.mem0 M3175) hr3177).mono ?_
    rintro e_ w3183 ⟨p3179, c3180, sg3181, rfl, ho3182, K3184⟩
    have M3185 := M3175.call K3184
    refine ⟨_, rfl, ?_⟩
    obtain ⟨r3251, hr3251, hm⟩ := gx_bind hm
    refine W_call 32 #[.agg #[.slice p3179 r3177.Items.length c3180, .int .i64 r3177.Head, .int .i64 r3177.Tail]] (by kernel_rfl) (by kernel_rfl) ?_
    refine (c_s_TakeWord w3183 r3177 p3179 c3180 (ho3182.rd M3185 1 (by kernel_rfl)) hr3251).mono ?_
    rintro e_ w3257 ⟨p3253, c3254, sg3255, rfl, ho3256, K3258⟩
    have M3259 := M3185.call K3258
    refine ⟨_, rfl, ?_⟩
    refine W_run 4 [(1, .pointer (some ⟨b3169, 0, none⟩)), (26, .agg #[.slice p3253 r3251.1.Items.length c3254, .int .i64 r3251.1.Head, .int .i64 r3251.1.Tail]), (27, .int .i64 r3251.2.1), (28, .bool r3251.2.2)] w3257 (by kernel_rfl) ?_
    refine W_new (fun b => .pointer (some ⟨b, 0, none⟩)) (.cells ⟨[.slice none 0 0, .int .i64 0, .int .i64 0]⟩ 27 (0, 0)) M3259 rfl (by kernel_rfl) (by kernel_rfl) ?_
    intro b3262 w3263 M3264
    refine W_store _ _ _ true 3 b3262 0 [.slice none 0 0, .int .i64 0, .int .i64 0] 27 (.agg #[.slice p3253 r3251.1.Items.length c3254, .int .i64 r3251.1.Head, .int .i64 r3251.1.Tail]) 3 [.slice p3253 r3251.1.Items.length c3254, .int .i64 r3251.1.Head, .int .i64 r3251.1.Tail] M3264 (by kernel_rfl) rfl (by kernel_rfl) (by kernel_rfl) (by kernel_rfl) (by kernel_rfl) (by kernel_rfl) (by kernel_rfl) (by kernel_rfl) (by kernel_rfl) ?_
    intro w3265 M3266
    refine W_run 2 [(1, .pointer (some ⟨b3169, 0, none⟩)), (4, .pointer (some ⟨b3262, 0, none⟩)), (5, .int .i64 r3251.2.1), (6, .bool r3251.2.2)] w3265 (by kernel_rfl) ?_
    refine W_nil ?_
    refine N_then ?_
    refine G_seq ?_
    refine G_region ?_
    refine W_val (.agg #[.slice p3165 x3163.Items.length c3166, .int .i64 x3163.Head, .int .i64 x3163.Tail]) w3265 (by kernel_rfl) (E_load (e := 33) (fr := (0, 0)) _ _ true 3 b3169 0 [.slice p3165 x3163.Items.length c3166, .int .i64 x3163.Head, .int .i64 x3163.Tail] (.agg #[.slice p3165 x3163.Items.length c3166, .int .i64 x3163.Head, .int .i64 x3163.Tail]) rfl (by kernel_rfl) (by kernel_rfl) (by kernel_rfl) (M3266.blk 0 (b := b3169) (o := .cells ⟨[.slice p3165 x3163.Items.length c3166, .int .i64 x3163.Head, .int .i64 x3163.Tail]⟩ 33 (0, 0)) (by kernel_rfl))) ?_
    obtain ⟨r3267, hr3267, hm⟩ := gx_bind hm
    refine W_call 23 #[.agg #[.slice p3165 x3163.Items.length c3166, .int .i64 x3163.Head, .int .i64 x3163.Tail]] (by kernel_rfl) (by kernel_rfl) ?_
    refine (c_l_toRing w3265 x3163 p3165 c3166 (h3167.mem0 M3266) hr3267).mono ?_
    rintro e_ w3273 ⟨p3269, c3270, sg3271, rfl, ho3272, K3274⟩
    have M3275 := M3266.call K3274
    refine ⟨_, rfl, ?_⟩
    refine W_new (fun b => .pointer (some ⟨b, 0, none⟩)) (.cells ⟨[.slice none 0 0, .int .i64 0, .int .i64 0]⟩ 27 (0, 0)) M3275 rfl (by kernel_rfl) (by kernel_rfl) ?_
    intro b3278 w3279 M3280
    refine W_store _ _ _ true 3 b3278 0 [.slice none 0 0, .int .i64 0, .int .i64 0] 27 (.agg #[.slice p3269 r3267.Items.length c3270, .int .i64 r3267.Head, .int .i64 r3267.Tail]) 5 [.slice p3269 r3267.Items.length c3270, .int .i64 r3267.Head, .int .i64 r3267.Tail] M3280 (by kernel_rfl) rfl (by kernel_rfl) (by kernel_rfl) (by kernel_rfl) (by kernel_rfl) (by kernel_rfl) (by kernel_rfl) (by kernel_rfl) (by kernel_rfl) ?_
    intro w3281 M3282
    refine W_nil ?_
    refine N_then ?_
    refine G_seq ?_
    refine G_region ?_
    refine W_val (.agg #[.slice p3269 r3267.Items.length c3270, .int .i64 r3267.Head, .int .i64 r3267.Tail]) w3281 (by kernel_rfl) (E_load (e := 27) (fr := (0, 0)) _ _ true 3 b3278 0 [.slice p3269 r3267.Items.length c3270, .int .i64 r3267.Head, .int .i64 r3267.Tail] (.agg #[.slice p3269 r3267.Items.length c3270, .int .i64 r3267.Head, .int .i64 r3267.Tail]) rfl (by kernel_rfl) (by kernel_rfl) (by kernel_rfl) (M3282.blk 5 (b := b3278) (o := .cells ⟨[.slice p3269 r3267.Items.length c3270, .int .i64 r3267.Head, .int .i64 r3267.Tail]⟩ 27 (0, 0)) (by kernel_rfl))) ?_
    obtain ⟨r3362, hr3362, hm⟩ := gx_bind hm
    refine W_call 33 #[.agg #[.slice p3269 r3267.Items.length c3270, .int .i64 r3267.Head, .int .i64 r3267.Tail]] (by kernel_rfl) (by kernel_rfl) ?_
    refine (c_i_TakeWord w3281 r3267 p3269 c3270 (ho3272.rd M3282 4 (by kernel_rfl)) hr3362).mono ?_
    rintro e_ w3368 ⟨p3364, c3365, sg3366, rfl, ho3367, K3369⟩
    have M3370 := M3282.call K3369
    refine ⟨_, rfl, ?_⟩
    refine W_run 4 [(1, .pointer (some ⟨b3169, 0, none⟩)), (4, .pointer (some ⟨b3262, 0, none⟩)), (5, .int .i64 r3251.2.1), (6, .bool r3251.2.2), (7, .pointer (some ⟨b3278, 0, none⟩)), (34, .agg #[.slice p3364 r3362.1.Items.length c3365, .int .i64 r3362.1.Head, .int .i64 r3362.1.Tail]), (35, .int .i64 r3362.2.1), (36, .bool r3362.2.2)] w3368 (by kernel_rfl) ?_
    refine W_new (fun b => .pointer (some ⟨b, 0, none⟩)) (.cells ⟨[.slice none 0 0, .int .i64 0, .int .i64 0]⟩ 27 (0, 0)) M3370 rfl (by kernel_rfl) (by kernel_rfl) ?_
    intro b3373 w3374 M3375
    refine W_store _ _ _ true 3 b3373 0 [.slice none 0 0, .int .i64 0, .int .i64 0] 27 (.agg #[.slice p3364 r3362.1.Items.length c3365, .int .i64 r3362.1.Head, .int .i64 r3362.1.Tail]) 7 [.slice p3364 r3362.1.Items.length c3365, .int .i64 r3362.1.Head, .int .i64 r3362.1.Tail] M3375 (by kernel_rfl) rfl (by kernel_rfl) (by kernel_rfl) (by kernel_rfl) (by kernel_rfl) (by kernel_rfl) (by kernel_rfl) (by kernel_rfl) (by kernel_rfl) ?_
    intro w3376 M3377
    refine W_run 2 [(1, .pointer (some ⟨b3169, 0, none⟩)), (4, .pointer (some ⟨b3262, 0, none⟩)), (5, .int .i64 r3251.2.1), (6, .bool r3251.2.2), (7, .pointer (some ⟨b3278, 0, none⟩)), (8, .pointer (some ⟨b3373, 0, none⟩)), (9, .int .i64 r3362.2.1), (10, .bool r3362.2.2)] w3376 (by kernel_rfl) ?_
    refine W_nil ?_
    refine N_then ?_
    refine G_seq ?_
    refine G_seq ?_
    obtain ⟨o3384, ho3385, hm3386⟩ := gx_bind hm
    refine G_meet (fun a w' => Mem [] w w' [[(b3169, .cells ⟨[.slice p3165 x3163.Items.length c3166, .int .i64 x3163.Head, .int .i64 x3163.Tail]⟩ 33 (0, 0))], sg3255, [(b3262, .cells ⟨[.slice p3253 r3251.1.Items.length c3254, .int .i64 r3251.1.Head, .int .i64 r3251.1.Tail]⟩ 27 (0, 0))], sg3271, [(b3278, .cells ⟨[.slice p3269 r3267.Items.length c3270, .int .i64 r3267.Head, .int .i64 r3267.Tail]⟩ 27 (0, 0))], sg3366, [(b3373, .cells ⟨[.slice p3364 r3362.1.Items.length c3365, .int .i64 r3362.1.Head, .int .i64 r3362.1.Tail]⟩ 27 (0, 0))]] ∧ Sat Try.f8.ntmps [(1, .pointer (some ⟨b3169, 0, none⟩)), (4, .pointer (some ⟨b3262, 0, none⟩)), (5, .int .i64 r3251.2.1), (6, .bool r3251.2.2), (7, .pointer (some ⟨b3278, 0, none⟩)), (8, .pointer (some ⟨b3373, 0, none⟩)), (9, .int .i64 r3362.2.1), (10, .bool r3362.2.2), (50, .bool o3384)] a) ?_ ?_
    · have hm := ho3385
      refine G_region ?_
      refine W_val (.agg #[.slice p3364 r3362.1.Items.length c3365, .int .i64 r3362.1.Head, .int .i64 r3362.1.Tail]) w3376 (by kernel_rfl) (E_load (e := 27) (fr := (0, 0)) _ _ true 3 b3373 0 [.slice p3364 r3362.1.Items.length c3365, .int .i64 r3362.1.Head, .int .i64 r3362.1.Tail] (.agg #[.slice p3364 r3362.1.Items.length c3365, .int .i64 r3362.1.Head, .int .i64 r3362.1.Tail]) rfl (by kernel_rfl) (by kernel_rfl) (by kernel_rfl) (M3377.blk 7 (b := b3373) (o := .cells ⟨[.slice p3364 r3362.1.Items.length c3365, .int .i64 r3362.1.Head, .int .i64 r3362.1.Tail]⟩ 27 (0, 0)) (by kernel_rfl))) ?_
      refine W_val (.agg #[.slice p3253 r3251.1.Items.length c3254, .int .i64 r3251.1.Head, .int .i64 r3251.1.Tail]) w3376 (by kernel_rfl) (E_load (e := 27) (fr := (0, 0)) _ _ true 3 b3262 0 [.slice p3253 r3251.1.Items.length c3254, .int .i64 r3251.1.Head, .int .i64 r3251.1.Tail] (.agg #[.slice p3253 r3251.1.Items.length c3254, .int .i64 r3251.1.Head, .int .i64 r3251.1.Tail]) rfl (by kernel_rfl) (by kernel_rfl) (by kernel_rfl) (M3377.blk 3 (b := b3262) (o := .cells ⟨[.slice p3253 r3251.1.Items.length c3254, .int .i64 r3251.1.Head, .int .i64 r3251.1.Tail]⟩ 27 (0, 0)) (by kernel_rfl))) ?_
      obtain ⟨r3387, hr3387, hm⟩ := gx_bind hm
      refine W_call 18 #[.agg #[.slice p3364 r3362.1.Items.length c3365, .int .i64 r3362.1.Head, .int .i64 r3362.1.Tail], .agg #[.slice p3253 r3251.1.Items.length c3254, .int .i64 r3251.1.Head, .int .i64 r3251.1.Tail]] (by kernel_rfl) (by kernel_rfl) ?_
      refine (c_l_eqRing w3376 r3362.1 p3364 c3365 (ho3367.rd M3377 6 (by kernel_rfl)) r3251.1 p3253 c3254 (ho3256.rd M3377 2 (by kernel_rfl)) hr3387).mono ?_
      rintro e_ w3388 ⟨rfl, K3389⟩
      have M3390 := M3377.call0 K3389
      refine ⟨_, rfl, ?_⟩
      refine W_run 2 [(1, .pointer (some ⟨b3169, 0, none⟩)), (4, .pointer (some ⟨b3262, 0, none⟩)), (5, .int .i64 r3251.2.1), (6, .bool r3251.2.2), (7, .pointer (some ⟨b3278, 0, none⟩)), (8, .pointer (some ⟨b3373, 0, none⟩)), (9, .int .i64 r3362.2.1), (10, .bool r3362.2.2), (41, .bool (!r3387))] w3388 (by kernel_rfl) ?_
      rcases gx_bif hm with ⟨hc3391, hm⟩ | ⟨hc3391, hm⟩
      · refine W_known 41 true (by kernel_rfl) hc3391 ?_
        refine W_run 9 [(1, .pointer (some ⟨b3169, 0, none⟩)), (4, .pointer (some ⟨b3262, 0, none⟩)), (5, .int .i64 r3251.2.1), (6, .bool r3251.2.2), (7, .pointer (some ⟨b3278, 0, none⟩)), (8, .pointer (some ⟨b3373, 0, none⟩)), (9, .int .i64 r3362.2.1), (10, .bool r3362.2.2), (50, .bool true)] w3388 (by kernel_rfl) ?_
        refine W_nil ?_
        obtain rfl := Option.some.inj hm
        exact N_meet fun a ha => ⟨M3390.pick [0, 2, 3, 4, 5, 6, 7] (by kernel_rfl), ha.sub (by kernel_rfl)⟩
      · refine W_known 41 false (by kernel_rfl) hc3391 ?_
        refine W_run 5 [(1, .pointer (some ⟨b3169, 0, none⟩)), (4, .pointer (some ⟨b3262, 0, none⟩)), (5, .int .i64 r3251.2.1), (6, .bool r3251.2.2), (7, .pointer (some ⟨b3278, 0, none⟩)), (8, .pointer (some ⟨b3373, 0, none⟩)), (9, .int .i64 r3362.2.1), (10, .bool r3362.2.2), (46, .bool (r3362.2.1 != r3251.2.1))] w3388 (by kernel_rfl) ?_
        rcases gx_bif hm with ⟨hc3392, hm⟩ | ⟨hc3392, hm⟩
        · refine W_known 46 true (by kernel_rfl) hc3392 ?_
          refine W_run 4 [(1, .pointer (some ⟨b3169, 0, none⟩)), (4, .pointer (some ⟨b3262, 0, none⟩)), (5, .int .i64 r3251.2.1), (6, .bool r3251.2.2), (7, .pointer (some ⟨b3278, 0, none⟩)), (8, .pointer (some ⟨b3373, 0, none⟩)), (9, .int .i64 r3362.2.1), (10, .bool r3362.2.2), (50, .bool true)] w3388 (by kernel_rfl) ?_
          refine W_nil ?_
          obtain rfl := Option.some.inj hm
          exact N_meet fun a ha => ⟨M3390.pick [0, 2, 3, 4, 5, 6, 7] (by kernel_rfl), ha.sub (by kernel_rfl)⟩
        · refine W_known 46 false (by kernel_rfl) hc3392 ?_
          refine W_run 4 [(1, .pointer (some ⟨b3169, 0, none⟩)), (4, .pointer (some ⟨b3262, 0, none⟩)), (5, .int .i64 r3251.2.1), (6, .bool r3251.2.2), (7, .pointer (some ⟨b3278, 0, none⟩)), (8, .pointer (some ⟨b3373, 0, none⟩)), (9, .int .i64 r3362.2.1), (10, .bool r3362.2.2), (50, .bool (!(r3362.2.2 == r3251.2.2)))] w3388 (by kernel_rfl) ?_
          refine W_nil ?_
          obtain rfl := Option.some.inj hm
          exact N_meet fun a ha => ⟨M3390.pick [0, 2, 3, 4, 5, 6, 7] (by kernel_rfl), ha.sub (by kernel_rfl)⟩
    · intro a3395 w3393 ⟨M3394, hS3396⟩
      refine N_use hS3396 ?_
      have hm := hm3386
      refine N_then ?_
      rcases gx_bif hm with ⟨hc3397, hm⟩ | ⟨hc3397, hm⟩
      · refine G_cond_t (b := o3384) hc3397 (by kernel_rfl) ?_
        refine G_seq ?_
        refine G_region ?_
        refine W_run 1 [(2, .bool false)] w3393 (by kernel_rfl) ?_
        refine W_nil ?_
        refine N_then ?_
        refine G_ret ?_
        refine N_then_ret ?_
        obtain rfl := Option.some.inj hm
        refine N_ret [.bool false] (RVs_cons (RV_tmp (by kernel_rfl)) RVs_nil) ?_
        exact ⟨rfl, M3394.pick [] (by kernel_rfl)⟩
      · refine G_cond_f (b := o3384) hc3397 (by kernel_rfl) ?_
        refine G_skip ?_
        refine N_then ?_
        refine G_seq ?_
        refine G_seq ?_
        obtain ⟨r3400, hr3400, hm⟩ := gx_bind hm
        refine G_sub [(1, .pointer (some ⟨b3169, 0, none⟩)), (4, .pointer (some ⟨b3262, 0, none⟩)), (5, .int .i64 r3251.2.1), (6, .bool r3251.2.2), (7, .pointer (some ⟨b3278, 0, none⟩)), (8, .pointer (some ⟨b3373, 0, none⟩)), (9, .int .i64 r3362.2.1), (10, .bool r3362.2.2), (50, .bool o3384)] (by kernel_rfl) ?_
        refine G_dagL 3 [[], [], [1]] [[], [], []] [[], [], []] [[], [], []] [[], [], []] [[], [], []] (fun _ => []) (fun i => ([fun f v s => v = (.agg #[.slice p3269 r3267.Items.length c3270, .int .i64 r3267.Head, .int .i64 r3267.Tail] : Value) ∧ s = [], fun f v s => v = (.agg #[.slice p3165 x3163.Items.length c3166, .int .i64 x3163.Head, .int .i64 x3163.Tail] : Value) ∧ s = [], fun f v s => ∃ (p3402 : Option Addr) (c3403 : Nat), v = (.agg #[.slice p3402 r3400.Items.length c3403, .int .i64 r3400.Head, .int .i64 r3400.Tail] : Value) ∧ ownS encI r3400.Items p3402 c3403 s] : List ((Nat → Value) → Value → Seg → Prop)).getD i (fun _ _ _ => False)) (fun j f v => ∃ s, (fun i => ([fun f v s => v = (.agg #[.slice p3269 r3267.Items.length c3270, .int .i64 r3267.Head, .int .i64 r3267.Tail] : Value) ∧ s = [], fun f v s => v = (.agg #[.slice p3165 x3163.Items.length c3166, .int .i64 x3163.Head, .int .i64 x3163.Tail] : Value) ∧ s = [], fun f v s => ∃ (p3402 : Option Addr) (c3403 : Nat), v = (.agg #[.slice p3402 r3400.Items.length c3403, .int .i64 r3400.Head, .int .i64 r3400.Tail] : Value) ∧ ownS encI r3400.Items p3402 c3403 s] : List ((Nat → Value) → Value → Seg → Prop)).getD i (fun _ _ _ => False)) j f v s) [] [0, 2] [2] (fun _ _ _ s h => ⟨s, h⟩) (by kernel_rfl) (by kernel_rfl) (M3394.preNil 3) (by kernel_rfl) (by kernel_rfl) (by kernel_rfl) (by kernel_rfl) (allOb_cons ?_ (allOb_cons ?_ (allOb_cons ?_ allOb_nil))) ?_
        · intro g3398 f3399
          intro R w3406 M3407
          refine W_val (.agg #[.slice p3269 r3267.Items.length c3270, .int .i64 r3267.Head, .int .i64 r3267.Tail]) w3406 (by kernel_rfl) (E_load (e := 27) (fr := (0, 0)) _ _ true 3 b3278 0 [.slice p3269 r3267.Items.length c3270, .int .i64 r3267.Head, .int .i64 r3267.Tail] (.agg #[.slice p3269 r3267.Items.length c3270, .int .i64 r3267.Head, .int .i64 r3267.Tail]) rfl (by kernel_rfl) (by kernel_rfl) (by kernel_rfl) (M3407.blk 4 (b := b3278) (o := .cells ⟨[.slice p3269 r3267.Items.length c3270, .int .i64 r3267.Head, .int .i64 r3267.Tail]⟩ 27 (0, 0)) (by kernel_rfl))) ?_
          exact W_nil (ob_end (.agg #[.slice p3269 r3267.Items.length c3270, .int .i64 r3267.Head, .int .i64 r3267.Tail]) [] rfl (by kernel_rfl) ⟨by kernel_rfl, rfl⟩ M3407)
        · intro g3398 f3399
          intro R w3410 M3411
          refine W_val (.agg #[.slice p3165 x3163.Items.length c3166, .int .i64 x3163.Head, .int .i64 x3163.Tail]) w3410 (by kernel_rfl) (E_load (e := 33) (fr := (0, 0)) _ _ true 3 b3169 0 [.slice p3165 x3163.Items.length c3166, .int .i64 x3163.Head, .int .i64 x3163.Tail] (.agg #[.slice p3165 x3163.Items.length c3166, .int .i64 x3163.Head, .int .i64 x3163.Tail]) rfl (by kernel_rfl) (by kernel_rfl) (by kernel_rfl) (M3411.blk 0 (b := b3169) (o := .cells ⟨[.slice p3165 x3163.Items.length c3166, .int .i64 x3163.Head, .int .i64 x3163.Tail]⟩ 33 (0, 0)) (by kernel_rfl))) ?_
          exact W_nil (ob_end (.agg #[.slice p3165 x3163.Items.length c3166, .int .i64 x3163.Head, .int .i64 x3163.Tail]) [] rfl (by kernel_rfl) ⟨by kernel_rfl, rfl⟩ M3411)
        · intro g3398 f3399
          intro v1_ hb1_
          obtain ⟨rfl, _⟩ := hb1_
          intro R w3414 M3415
          refine W_call 23 #[.agg #[.slice p3165 x3163.Items.length c3166, .int .i64 x3163.Head, .int .i64 x3163.Tail]] (by kernel_rfl) (by kernel_rfl) ?_
          refine (c_l_toRing w3414 x3163 p3165 c3166 (h3167.mem0 M3415) hr3400).mono ?_
          rintro e_ w3416 ⟨p3402, c3403, sg3404, rfl, ho3405, K3418⟩
          refine ⟨_, rfl, ?_⟩
          exact W_nil (ob_end (.agg #[.slice p3402 r3400.Items.length c3403, .int .i64 r3400.Head, .int .i64 r3400.Tail]) sg3404 rfl (by kernel_rfl) ⟨p3402, c3403, rfl, ho3405⟩ (Mem.callMid M3415 K3418))
        · intro g3398 f3399
          intro v0_ hb0_
          obtain ⟨rfl, _⟩ := hb0_
          intro v2_ hb2_
          obtain ⟨p3402, c3403, rfl, ho3405⟩ := hb2_
          intro w3419 M3420
          have M3421 : Mem [] w w3419 [[(b3169, .cells ⟨[.slice p3165 x3163.Items.length c3166, .int .i64 x3163.Head, .int .i64 x3163.Tail]⟩ 33 (0, 0))], sg3255, [(b3262, .cells ⟨[.slice p3253 r3251.1.Items.length c3254, .int .i64 r3251.1.Head, .int .i64 r3251.1.Tail]⟩ 27 (0, 0))], sg3271, [(b3278, .cells ⟨[.slice p3269 r3267.Items.length c3270, .int .i64 r3267.Head, .int .i64 r3267.Tail]⟩ 27 (0, 0))], sg3366, [(b3373, .cells ⟨[.slice p3364 r3362.1.Items.length c3365, .int .i64 r3362.1.Head, .int .i64 r3362.1.Tail]⟩ 27 (0, 0))], (g3398 2)] := M3420
          obtain ⟨r3422, hr3422, hm⟩ := gx_bind hm
          refine W_call 18 #[.agg #[.slice p3269 r3267.Items.length c3270, .int .i64 r3267.Head, .int .i64 r3267.Tail], .agg #[.slice p3402 r3400.Items.length c3403, .int .i64 r3400.Head, .int .i64 r3400.Tail]] (by kernel_rfl) (by kernel_rfl) ?_
          refine (c_l_eqRing w3419 r3267 p3269 c3270 (ho3272.rd M3421 3 (by kernel_rfl)) r3400 p3402 c3403 (ho3405.rd M3421 7 (by kernel_rfl)) hr3422).mono ?_
          rintro e_ w3423 ⟨rfl, K3424⟩
          have M3425 := M3421.call0 K3424
          refine ⟨_, rfl, ?_⟩
          refine W_run 1 [(1, .pointer (some ⟨b3169, 0, none⟩)), (4, .pointer (some ⟨b3262, 0, none⟩)), (5, .int .i64 r3251.2.1), (6, .bool r3251.2.2), (7, .pointer (some ⟨b3278, 0, none⟩)), (8, .pointer (some ⟨b3373, 0, none⟩)), (9, .int .i64 r3362.2.1), (10, .bool r3362.2.2), (55, .bool (!r3422))] w3423 (by kernel_rfl) ?_
          refine W_nil ?_
          refine N_then ?_
          rcases gx_bif hm with ⟨hc3426, hm⟩ | ⟨hc3426, hm⟩
          · refine G_cond_t (b := (!r3422)) hc3426 (by kernel_rfl) ?_
            refine G_seq ?_
            refine G_region ?_
            refine W_run 1 [(2, .bool false)] w3423 (by kernel_rfl) ?_
            refine W_nil ?_
            refine N_then ?_
            refine G_ret ?_
            refine N_then_ret ?_
            obtain rfl := Option.some.inj hm
            refine N_ret [.bool false] (RVs_cons (RV_tmp (by kernel_rfl)) RVs_nil) ?_
            exact ⟨rfl, M3425.pick [] (by kernel_rfl)⟩
          · refine G_cond_f (b := (!r3422)) hc3426 (by kernel_rfl) ?_
            refine G_skip ?_
            refine N_then ?_
            refine G_seq ?_
            refine G_region ?_
            refine W_run 1 [(1, .pointer (some ⟨b3169, 0, none⟩)), (4, .pointer (some ⟨b3262, 0, none⟩)), (5, .int .i64 r3251.2.1), (6, .bool r3251.2.2), (7, .pointer (some ⟨b3278, 0, none⟩)), (8, .pointer (some ⟨b3373, 0, none⟩)), (9, .int .i64 r3362.2.1), (10, .bool r3362.2.2), (11, .int .i64 1)] w3423 (by kernel_rfl) ?_
            refine W_nil ?_
            refine N_then ?_
            refine G_seq ?_
            refine G_region ?_
            refine W_val (.agg #[.slice p3269 r3267.Items.length c3270, .int .i64 r3267.Head, .int .i64 r3267.Tail]) w3423 (by kernel_rfl) (E_load (e := 27) (fr := (0, 0)) _ _ true 3 b3278 0 [.slice p3269 r3267.Items.length c3270, .int .i64 r3267.Head, .int .i64 r3267.Tail] (.agg #[.slice p3269 r3267.Items.length c3270, .int .i64 r3267.Head, .int .i64 r3267.Tail]) rfl (by kernel_rfl) (by kernel_rfl) (by kernel_rfl) (M3425.blk 4 (b := b3278) (o := .cells ⟨[.slice p3269 r3267.Items.length c3270, .int .i64 r3267.Head, .int .i64 r3267.Tail]⟩ 27 (0, 0)) (by kernel_rfl))) ?_
            refine W_run 1 [(1, .pointer (some ⟨b3169, 0, none⟩)), (4, .pointer (some ⟨b3262, 0, none⟩)), (5, .int .i64 r3251.2.1), (6, .bool r3251.2.2), (8, .pointer (some ⟨b3373, 0, none⟩)), (9, .int .i64 r3362.2.1), (10, .bool r3362.2.2), (11, .int .i64 1), (56, .agg #[.slice p3269 r3267.Items.length c3270, .int .i64 r3267.Head, .int .i64 r3267.Tail]), (57, .int .i64 1)] w3423 (by kernel_rfl) ?_
            obtain ⟨r3427, hr3427, hm⟩ := gx_bind hm
            refine W_call 19 #[.agg #[.slice p3269 r3267.Items.length c3270, .int .i64 r3267.Head, .int .i64 r3267.Tail], .int .i64 1] (by kernel_rfl) (by kernel_rfl) ?_
            refine (c_l_markRing w3423 r3267 p3269 c3270 sg3271 ho3272 1 (M3425.hasPick [3]) (M3425.nodupPick [3] (by kernel_rfl)) hr3427).mono ?_
            rintro e_ w3431 ⟨sg3428, rfl, ho3429, hl3430, K3432⟩
            have M3433 := M3425.callF' [3] [0, 1, 2, 4, 5, 6, 7] (by kernel_rfl) K3432
            refine ⟨_, rfl, ?_⟩
            refine W_conv 56 (.agg #[.slice p3269 r3267.Items.length c3270, .int .i64 r3267.Head, .int .i64 r3267.Tail]) (.agg #[.slice p3269 r3427.2.length c3270, .int .i64 r3267.Head, .int .i64 r3267.Tail]) (by kernel_rfl) (by first | rw [hl3430] | rw [hl3430]) ?_
            have M3434 : Mem [] w w3431 [[(b3169, .cells ⟨[.slice p3165 x3163.Items.length c3166, .int .i64 x3163.Head, .int .i64 x3163.Tail]⟩ 33 (0, 0))], sg3255, [(b3262, .cells ⟨[.slice p3253 r3251.1.Items.length c3254, .int .i64 r3251.1.Head, .int .i64 r3251.1.Tail]⟩ 27 (0, 0))], [(b3278, .cells ⟨[.slice p3269 r3427.2.length c3270, .int .i64 r3267.Head, .int .i64 r3267.Tail]⟩ 27 (0, 0))], sg3366, [(b3373, .cells ⟨[.slice p3364 r3362.1.Items.length c3365, .int .i64 r3362.1.Head, .int .i64 r3362.1.Tail]⟩ 27 (0, 0))], (g3398 2), sg3428] := by rw [hl3430]; exact M3433
            refine W_run 1 [(1, .pointer (some ⟨b3169, 0, none⟩)), (4, .pointer (some ⟨b3262, 0, none⟩)), (5, .int .i64 r3251.2.1), (6, .bool r3251.2.2), (8, .pointer (some ⟨b3373, 0, none⟩)), (9, .int .i64 r3362.2.1), (10, .bool r3362.2.2), (11, .int .i64 r3427.1)] w3431 (by kernel_rfl) ?_
            refine W_nil ?_
            refine N_then ?_
            refine G_seq ?_
            refine G_seq ?_
            obtain ⟨o3442, ho3443, hm3444⟩ := gx_bind hm
            refine G_meet (fun a w' => Mem [] w w' [[(b3169, .cells ⟨[.slice p3165 x3163.Items.length c3166, .int .i64 x3163.Head, .int .i64 x3163.Tail]⟩ 33 (0, 0))], sg3255, [(b3262, .cells ⟨[.slice p3253 r3251.1.Items.length c3254, .int .i64 r3251.1.Head, .int .i64 r3251.1.Tail]⟩ 27 (0, 0))], sg3366, [(b3373, .cells ⟨[.slice p3364 r3362.1.Items.length c3365, .int .i64 r3362.1.Head, .int .i64 r3362.1.Tail]⟩ 27 (0, 0))]] ∧ Sat Try.f8.ntmps [(1, .pointer (some ⟨b3169, 0, none⟩)), (4, .pointer (some ⟨b3262, 0, none⟩)), (5, .int .i64 r3251.2.1), (6, .bool r3251.2.2), (8, .pointer (some ⟨b3373, 0, none⟩)), (76, .bool o3442)] a) ?_ ?_
            · have hm := ho3443
              refine G_region ?_
              refine W_run 3 [(1, .pointer (some ⟨b3169, 0, none⟩)), (4, .pointer (some ⟨b3262, 0, none⟩)), (5, .int .i64 r3251.2.1), (6, .bool r3251.2.2), (8, .pointer (some ⟨b3373, 0, none⟩)), (9, .int .i64 r3362.2.1), (10, .bool r3362.2.2), (61, .bool (decide (r3427.1 < 0)))] w3431 (by kernel_rfl) ?_
              rcases gx_bif hm with ⟨hc3445, hm⟩ | ⟨hc3445, hm⟩
              · refine W_known 61 true (by kernel_rfl) hc3445 ?_
                refine W_run 15 [(1, .pointer (some ⟨b3169, 0, none⟩)), (4, .pointer (some ⟨b3262, 0, none⟩)), (5, .int .i64 r3251.2.1), (6, .bool r3251.2.2), (8, .pointer (some ⟨b3373, 0, none⟩)), (76, .bool true)] w3431 (by kernel_rfl) ?_
                refine W_nil ?_
                obtain rfl := Option.some.inj hm
                exact N_meet fun a ha => ⟨M3434.pick [0, 1, 2, 4, 5] (by kernel_rfl), ha.sub (by kernel_rfl)⟩
              · refine W_known 61 false (by kernel_rfl) hc3445 ?_
                refine W_val (.agg #[.slice p3364 r3362.1.Items.length c3365, .int .i64 r3362.1.Head, .int .i64 r3362.1.Tail]) w3431 (by kernel_rfl) (E_load (e := 27) (fr := (0, 0)) _ _ true 3 b3373 0 [.slice p3364 r3362.1.Items.length c3365, .int .i64 r3362.1.Head, .int .i64 r3362.1.Tail] (.agg #[.slice p3364 r3362.1.Items.length c3365, .int .i64 r3362.1.Head, .int .i64 r3362.1.Tail]) rfl (by kernel_rfl) (by kernel_rfl) (by kernel_rfl) (M3434.blk 5 (b := b3373) (o := .cells ⟨[.slice p3364 r3362.1.Items.length c3365, .int .i64 r3362.1.Head, .int .i64 r3362.1.Tail]⟩ 27 (0, 0)) (by kernel_rfl))) ?_
                refine W_val (.agg #[.slice p3253 r3251.1.Items.length c3254, .int .i64 r3251.1.Head, .int .i64 r3251.1.Tail]) w3431 (by kernel_rfl) (E_load (e := 27) (fr := (0, 0)) _ _ true 3 b3262 0 [.slice p3253 r3251.1.Items.length c3254, .int .i64 r3251.1.Head, .int .i64 r3251.1.Tail] (.agg #[.slice p3253 r3251.1.Items.length c3254, .int .i64 r3251.1.Head, .int .i64 r3251.1.Tail]) rfl (by kernel_rfl) (by kernel_rfl) (by kernel_rfl) (M3434.blk 2 (b := b3262) (o := .cells ⟨[.slice p3253 r3251.1.Items.length c3254, .int .i64 r3251.1.Head, .int .i64 r3251.1.Tail]⟩ 27 (0, 0)) (by kernel_rfl))) ?_
                obtain ⟨r3446, hr3446, hm⟩ := gx_bind hm
                refine W_call 18 #[.agg #[.slice p3364 r3362.1.Items.length c3365, .int .i64 r3362.1.Head, .int .i64 r3362.1.Tail], .agg #[.slice p3253 r3251.1.Items.length c3254, .int .i64 r3251.1.Head, .int .i64 r3251.1.Tail]] (by kernel_rfl) (by kernel_rfl) ?_
                refine (c_l_eqRing w3431 r3362.1 p3364 c3365 (ho3367.rd M3434 4 (by kernel_rfl)) r3251.1 p3253 c3254 (ho3256.rd M3434 1 (by kernel_rfl)) hr3446).mono ?_
                rintro e_ w3447 ⟨rfl, K3448⟩
                have M3449 := M3434.call0 K3448
                refine ⟨_, rfl, ?_⟩
                refine W_run 3 [(1, .pointer (some ⟨b3169, 0, none⟩)), (4, .pointer (some ⟨b3262, 0, none⟩)), (5, .int .i64 r3251.2.1), (6, .bool r3251.2.2), (8, .pointer (some ⟨b3373, 0, none⟩)), (9, .int .i64 r3362.2.1), (10, .bool r3362.2.2), (67, .bool (!r3446))] w3447 (by kernel_rfl) ?_
                rcases gx_bif hm with ⟨hc3450, hm⟩ | ⟨hc3450, hm⟩
                · refine W_known 67 true (by kernel_rfl) hc3450 ?_
                  refine W_run 9 [(1, .pointer (some ⟨b3169, 0, none⟩)), (4, .pointer (some ⟨b3262, 0, none⟩)), (5, .int .i64 r3251.2.1), (6, .bool r3251.2.2), (8, .pointer (some ⟨b3373, 0, none⟩)), (76, .bool true)] w3447 (by kernel_rfl) ?_
                  refine W_nil ?_
                  obtain rfl := Option.some.inj hm
                  exact N_meet fun a ha => ⟨M3449.pick [0, 1, 2, 4, 5] (by kernel_rfl), ha.sub (by kernel_rfl)⟩
                · refine W_known 67 false (by kernel_rfl) hc3450 ?_
                  refine W_run 5 [(1, .pointer (some ⟨b3169, 0, none⟩)), (4, .pointer (some ⟨b3262, 0, none⟩)), (5, .int .i64 r3251.2.1), (6, .bool r3251.2.2), (8, .pointer (some ⟨b3373, 0, none⟩)), (10, .bool r3362.2.2), (72, .bool (r3362.2.1 != r3251.2.1))] w3447 (by kernel_rfl) ?_
                  rcases gx_bif hm with ⟨hc3451, hm⟩ | ⟨hc3451, hm⟩
                  · refine W_known 72 true (by kernel_rfl) hc3451 ?_
                    refine W_run 4 [(1, .pointer (some ⟨b3169, 0, none⟩)), (4, .pointer (some ⟨b3262, 0, none⟩)), (5, .int .i64 r3251.2.1), (6, .bool r3251.2.2), (8, .pointer (some ⟨b3373, 0, none⟩)), (76, .bool true)] w3447 (by kernel_rfl) ?_
                    refine W_nil ?_
                    obtain rfl := Option.some.inj hm
                    exact N_meet fun a ha => ⟨M3449.pick [0, 1, 2, 4, 5] (by kernel_rfl), ha.sub (by kernel_rfl)⟩
                  · refine W_known 72 false (by kernel_rfl) hc3451 ?_
                    refine W_run 4 [(1, .pointer (some ⟨b3169, 0, none⟩)), (4, .pointer (some ⟨b3262, 0, none⟩)), (5, .int .i64 r3251.2.1), (6, .bool r3251.2.2), (8, .pointer (some ⟨b3373, 0, none⟩)), (76, .bool (!(r3362.2.2 == r3251.2.2)))] w3447 (by kernel_rfl) ?_
                    refine W_nil ?_
                    obtain rfl := Option.some.inj hm
                    exact N_meet fun a ha => ⟨M3449.pick [0, 1, 2, 4, 5] (by kernel_rfl), ha.sub (by kernel_rfl)⟩
            · intro a3454 w3452 ⟨M3453, hS3455⟩
              refine N_use hS3455 ?_
              have hm := hm3444
              refine N_then ?_
              rcases gx_bif hm with ⟨hc3456, hm⟩ | ⟨hc3456, hm⟩
              · refine G_cond_t (b := o3442) hc3456 (by kernel_rfl) ?_
                refine G_seq ?_
                refine G_region ?_
                refine W_run 1 [(2, .bool false)] w3452 (by kernel_rfl) ?_
                refine W_nil ?_
                refine N_then ?_
                refine G_ret ?_
                refine N_then_ret ?_
                obtain rfl := Option.some.inj hm
                refine N_ret [.bool false] (RVs_cons (RV_tmp (by kernel_rfl)) RVs_nil) ?_
                exact ⟨rfl, M3453.pick [] (by kernel_rfl)⟩
              · refine G_cond_f (b := o3442) hc3456 (by kernel_rfl) ?_
                refine G_skip ?_
                refine N_then ?_
                refine G_seq ?_
                refine G_region ?_
                refine W_run 1 [(1, .pointer (some ⟨b3169, 0, none⟩)), (4, .pointer (some ⟨b3262, 0, none⟩)), (5, .int .i64 r3251.2.1), (6, .bool r3251.2.2), (8, .pointer (some ⟨b3373, 0, none⟩)), (12, .int .i64 1)] w3452 (by kernel_rfl) ?_
                refine W_nil ?_
                refine N_then ?_
                refine G_seq ?_
                refine G_region ?_
                refine W_val (.agg #[.slice p3364 r3362.1.Items.length c3365, .int .i64 r3362.1.Head, .int .i64 r3362.1.Tail]) w3452 (by kernel_rfl) (E_load (e := 27) (fr := (0, 0)) _ _ true 3 b3373 0 [.slice p3364 r3362.1.Items.length c3365, .int .i64 r3362.1.Head, .int .i64 r3362.1.Tail] (.agg #[.slice p3364 r3362.1.Items.length c3365, .int .i64 r3362.1.Head, .int .i64 r3362.1.Tail]) rfl (by kernel_rfl) (by kernel_rfl) (by kernel_rfl) (M3453.blk 4 (b := b3373) (o := .cells ⟨[.slice p3364 r3362.1.Items.length c3365, .int .i64 r3362.1.Head, .int .i64 r3362.1.Tail]⟩ 27 (0, 0)) (by kernel_rfl))) ?_
                refine W_run 1 [(1, .pointer (some ⟨b3169, 0, none⟩)), (4, .pointer (some ⟨b3262, 0, none⟩)), (5, .int .i64 r3251.2.1), (6, .bool r3251.2.2), (8, .pointer (some ⟨b3373, 0, none⟩)), (12, .int .i64 1), (77, .agg #[.slice p3364 r3362.1.Items.length c3365, .int .i64 r3362.1.Head, .int .i64 r3362.1.Tail]), (78, .int .i64 1)] w3452 (by kernel_rfl) ?_
                obtain ⟨r3457, hr3457, hm⟩ := gx_bind hm
                refine W_call 19 #[.agg #[.slice p3364 r3362.1.Items.length c3365, .int .i64 r3362.1.Head, .int .i64 r3362.1.Tail], .int .i64 1] (by kernel_rfl) (by kernel_rfl) ?_
                refine (c_l_markRing w3452 r3362.1 p3364 c3365 sg3366 ho3367 1 (M3453.hasPick [3]) (M3453.nodupPick [3] (by kernel_rfl)) hr3457).mono ?_
                rintro e_ w3461 ⟨sg3458, rfl, ho3459, hl3460, K3462⟩
                have M3463 := M3453.callF' [3] [0, 1, 2, 4] (by kernel_rfl) K3462
                refine ⟨_, rfl, ?_⟩
                refine W_conv 77 (.agg #[.slice p3364 r3362.1.Items.length c3365, .int .i64 r3362.1.Head, .int .i64 r3362.1.Tail]) (.agg #[.slice p3364 r3457.2.length c3365, .int .i64 r3362.1.Head, .int .i64 r3362.1.Tail]) (by kernel_rfl) (by first | rw [hl3460] | rw [hl3460]) ?_
                have M3464 : Mem [] w w3461 [[(b3169, .cells ⟨[.slice p3165 x3163.Items.length c3166, .int .i64 x3163.Head, .int .i64 x3163.Tail]⟩ 33 (0, 0))], sg3255, [(b3262, .cells ⟨[.slice p3253 r3251.1.Items.length c3254, .int .i64 r3251.1.Head, .int .i64 r3251.1.Tail]⟩ 27 (0, 0))], [(b3373, .cells ⟨[.slice p3364 r3457.2.length c3365, .int .i64 r3362.1.Head, .int .i64 r3362.1.Tail]⟩ 27 (0, 0))], sg3458] := by rw [hl3460]; exact M3463
                refine W_run 1 [(1, .pointer (some ⟨b3169, 0, none⟩)), (4, .pointer (some ⟨b3262, 0, none⟩)), (5, .int .i64 r3251.2.1), (6, .bool r3251.2.2), (8, .pointer (some ⟨b3373, 0, none⟩)), (12, .int .i64 r3457.1)] w3461 (by kernel_rfl) ?_
                refine W_nil ?_
                refine N_then ?_
                refine G_seq ?_
                refine G_region ?_
                refine W_run 1 [(1, .pointer (some ⟨b3169, 0, none⟩)), (4, .pointer (some ⟨b3262, 0, none⟩)), (5, .int .i64 r3251.2.1), (6, .bool r3251.2.2), (8, .pointer (some ⟨b3373, 0, none⟩)), (12, .int .i64 r3457.1), (13, .int .i64 1)] w3461 (by kernel_rfl) ?_
                refine W_nil ?_
                refine N_then ?_
                refine G_seq ?_
                refine G_region ?_
                refine W_val (.agg #[.slice p3364 r3457.2.length c3365, .int .i64 r3362.1.Head, .int .i64 r3362.1.Tail]) w3461 (by kernel_rfl) (E_load (e := 27) (fr := (0, 0)) _ _ true 3 b3373 0 [.slice p3364 r3457.2.length c3365, .int .i64 r3362.1.Head, .int .i64 r3362.1.Tail] (.agg #[.slice p3364 r3457.2.length c3365, .int .i64 r3362.1.Head, .int .i64 r3362.1.Tail]) rfl (by kernel_rfl) (by kernel_rfl) (by kernel_rfl) (M3464.blk 3 (b := b3373) (o := .cells ⟨[.slice p3364 r3457.2.length c3365, .int .i64 r3362.1.Head, .int .i64 r3362.1.Tail]⟩ 27 (0, 0)) (by kernel_rfl))) ?_
                refine W_run 1 [(1, .pointer (some ⟨b3169, 0, none⟩)), (4, .pointer (some ⟨b3262, 0, none⟩)), (5, .int .i64 r3251.2.1), (6, .bool r3251.2.2), (8, .pointer (some ⟨b3373, 0, none⟩)), (12, .int .i64 r3457.1), (13, .int .i64 1), (80, .agg #[.slice p3364 r3457.2.length c3365, .int .i64 r3362.1.Head, .int .i64 r3362.1.Tail]), (81, .int .i64 1)] w3461 (by kernel_rfl) ?_
                obtain ⟨r3465, hr3465, hm⟩ := gx_bind hm
                refine W_call 20 #[.agg #[.slice p3364 r3457.2.length c3365, .int .i64 r3362.1.Head, .int .i64 r3362.1.Tail], .int .i64 1] (by kernel_rfl) (by kernel_rfl) ?_
                refine (c_l_heldRing w3461 (⟨r3457.2, r3362.1.Head, r3362.1.Tail⟩ : Ring) p3364 c3365 (ho3459.rd M3464 4 (by kernel_rfl)) 1 hr3465).mono ?_
                rintro e_ w3466 ⟨rfl, K3467⟩
                have M3468 := M3464.call0 K3467
                refine ⟨_, rfl, ?_⟩
                refine W_run 1 [(1, .pointer (some ⟨b3169, 0, none⟩)), (4, .pointer (some ⟨b3262, 0, none⟩)), (5, .int .i64 r3251.2.1), (6, .bool r3251.2.2), (8, .pointer (some ⟨b3373, 0, none⟩)), (12, .int .i64 r3457.1), (13, .int .i64 r3465)] w3466 (by kernel_rfl) ?_
                refine W_nil ?_
                refine N_then ?_
                refine G_seq ?_
                refine G_seq ?_
                refine G_region ?_
                refine W_run 2 [(1, .pointer (some ⟨b3169, 0, none⟩)), (4, .pointer (some ⟨b3262, 0, none⟩)), (5, .int .i64 r3251.2.1), (6, .bool r3251.2.2), (8, .pointer (some ⟨b3373, 0, none⟩)), (12, .int .i64 r3457.1), (13, .int .i64 r3465), (84, .bool (decide (r3465 < 0)))] w3466 (by kernel_rfl) ?_
                refine W_nil ?_
                refine N_then ?_
                rcases gx_bif hm with ⟨hc3469, hm⟩ | ⟨hc3469, hm⟩
                · refine G_cond_t (b := (decide (r3465 < 0))) hc3469 (by kernel_rfl) ?_
                  refine G_seq ?_
                  refine G_region ?_
                  refine W_run 1 [(2, .bool false)] w3466 (by kernel_rfl) ?_
                  refine W_nil ?_
                  refine N_then ?_
                  refine G_ret ?_
                  refine N_then_ret ?_
                  obtain rfl := Option.some.inj hm
                  refine N_ret [.bool false] (RVs_cons (RV_tmp (by kernel_rfl)) RVs_nil) ?_
                  exact ⟨rfl, M3468.pick [] (by kernel_rfl)⟩
                · refine G_cond_f (b := (decide (r3465 < 0))) hc3469 (by kernel_rfl) ?_
                  refine G_skip ?_
                  refine N_then ?_
                  refine G_seq ?_
                  refine G_seq ?_
                  refine G_region ?_
                  refine W_run 3 [(1, .pointer (some ⟨b3169, 0, none⟩)), (4, .pointer (some ⟨b3262, 0, none⟩)), (5, .int .i64 r3251.2.1), (6, .bool r3251.2.2), (8, .pointer (some ⟨b3373, 0, none⟩)), (12, .int .i64 r3457.1), (87, .bool (r3465 != r3457.1))] w3466 (by kernel_rfl) ?_
                  refine W_nil ?_
                  refine N_then ?_
                  rcases gx_bif hm with ⟨hc3470, hm⟩ | ⟨hc3470, hm⟩
                  · refine G_cond_t (b := (r3465 != r3457.1)) hc3470 (by kernel_rfl) ?_
                    refine G_seq ?_
                    refine G_region ?_
                    refine W_run 1 [(2, .bool false)] w3466 (by kernel_rfl) ?_
                    refine W_nil ?_
                    refine N_then ?_
                    refine G_ret ?_
                    refine N_then_ret ?_
                    obtain rfl := Option.some.inj hm
                    refine N_ret [.bool false] (RVs_cons (RV_tmp (by kernel_rfl)) RVs_nil) ?_
                    exact ⟨rfl, M3468.pick [] (by kernel_rfl)⟩
                  · refine G_cond_f (b := (r3465 != r3457.1)) hc3470 (by kernel_rfl) ?_
                    refine G_skip ?_
                    refine N_then ?_
                    refine G_seq ?_
                    refine G_region ?_
                    refine W_val (.agg #[.slice p3165 x3163.Items.length c3166, .int .i64 x3163.Head, .int .i64 x3163.Tail]) w3466 (by kernel_rfl) (E_load (e := 33) (fr := (0, 0)) _ _ true 3 b3169 0 [.slice p3165 x3163.Items.length c3166, .int .i64 x3163.Head, .int .i64 x3163.Tail] (.agg #[.slice p3165 x3163.Items.length c3166, .int .i64 x3163.Head, .int .i64 x3163.Tail]) rfl (by kernel_rfl) (by kernel_rfl) (by kernel_rfl) (M3468.blk 0 (b := b3169) (o := .cells ⟨[.slice p3165 x3163.Items.length c3166, .int .i64 x3163.Head, .int .i64 x3163.Tail]⟩ 33 (0, 0)) (by kernel_rfl))) ?_
                    obtain ⟨r3471, hr3471, hm⟩ := gx_bind hm
                    refine W_call 23 #[.agg #[.slice p3165 x3163.Items.length c3166, .int .i64 x3163.Head, .int .i64 x3163.Tail]] (by kernel_rfl) (by kernel_rfl) ?_
                    refine (c_l_toRing w3466 x3163 p3165 c3166 (h3167.mem0 M3468) hr3471).mono ?_
                    rintro e_ w3477 ⟨p3473, c3474, sg3475, rfl, ho3476, K3478⟩
                    have M3479 := M3468.call K3478
                    refine ⟨_, rfl, ?_⟩
                    obtain ⟨r3480, hr3480, hm⟩ := gx_bind hm
                    refine W_call 33 #[.agg #[.slice p3473 r3471.Items.length c3474, .int .i64 r3471.Head, .int .i64 r3471.Tail]] (by kernel_rfl) (by kernel_rfl) ?_
                    refine (c_i_TakeWord w3477 r3471 p3473 c3474 (ho3476.rd M3479 5 (by kernel_rfl)) hr3480).mono ?_
                    rintro e_ w3486 ⟨p3482, c3483, sg3484, rfl, ho3485, K3487⟩
                    have M3488 := M3479.call K3487
                    refine ⟨_, rfl, ?_⟩
                    refine W_run 4 [(4, .pointer (some ⟨b3262, 0, none⟩)), (5, .int .i64 r3251.2.1), (6, .bool r3251.2.2), (8, .pointer (some ⟨b3373, 0, none⟩)), (12, .int .i64 r3457.1), (92, .agg #[.slice p3482 r3480.1.Items.length c3483, .int .i64 r3480.1.Head, .int .i64 r3480.1.Tail]), (93, .int .i64 r3480.2.1), (94, .bool r3480.2.2)] w3486 (by kernel_rfl) ?_
                    refine W_new (fun b => .pointer (some ⟨b, 0, none⟩)) (.cells ⟨[.slice none 0 0, .int .i64 0, .int .i64 0]⟩ 27 (0, 0)) M3488 rfl (by kernel_rfl) (by kernel_rfl) ?_
                    intro b3491 w3492 M3493
                    refine W_store _ _ _ true 3 b3491 0 [.slice none 0 0, .int .i64 0, .int .i64 0] 27 (.agg #[.slice p3482 r3480.1.Items.length c3483, .int .i64 r3480.1.Head, .int .i64 r3480.1.Tail]) 7 [.slice p3482 r3480.1.Items.length c3483, .int .i64 r3480.1.Head, .int .i64 r3480.1.Tail] M3493 (by kernel_rfl) rfl (by kernel_rfl) (by kernel_rfl) (by kernel_rfl) (by kernel_rfl) (by kernel_rfl) (by kernel_rfl) (by kernel_rfl) (by kernel_rfl) ?_
                    intro w3494 M3495
                    refine W_run 2 [(4, .pointer (some ⟨b3262, 0, none⟩)), (5, .int .i64 r3251.2.1), (6, .bool r3251.2.2), (8, .pointer (some ⟨b3373, 0, none⟩)), (12, .int .i64 r3457.1), (14, .pointer (some ⟨b3491, 0, none⟩)), (15, .int .i64 r3480.2.1), (16, .bool r3480.2.2)] w3494 (by kernel_rfl) ?_
                    refine W_nil ?_
                    refine N_then ?_
                    refine G_seq ?_
                    refine G_seq ?_
                    obtain ⟨o3502, ho3503, hm3504⟩ := gx_bind hm
                    refine G_meet (fun a w' => Mem [] w w' [[(b3373, .cells ⟨[.slice p3364 r3457.2.length c3365, .int .i64 r3362.1.Head, .int .i64 r3362.1.Tail]⟩ 27 (0, 0))], sg3458] ∧ Sat Try.f8.ntmps [(8, .pointer (some ⟨b3373, 0, none⟩)), (12, .int .i64 r3457.1), (108, .bool o3502)] a) ?_ ?_
                    · have hm := ho3503
                      refine G_region ?_
                      refine W_val (.agg #[.slice p3482 r3480.1.Items.length c3483, .int .i64 r3480.1.Head, .int .i64 r3480.1.Tail]) w3494 (by kernel_rfl) (E_load (e := 27) (fr := (0, 0)) _ _ true 3 b3491 0 [.slice p3482 r3480.1.Items.length c3483, .int .i64 r3480.1.Head, .int .i64 r3480.1.Tail] (.agg #[.slice p3482 r3480.1.Items.length c3483, .int .i64 r3480.1.Head, .int .i64 r3480.1.Tail]) rfl (by kernel_rfl) (by kernel_rfl) (by kernel_rfl) (M3495.blk 7 (b := b3491) (o := .cells ⟨[.slice p3482 r3480.1.Items.length c3483, .int .i64 r3480.1.Head, .int .i64 r3480.1.Tail]⟩ 27 (0, 0)) (by kernel_rfl))) ?_
                      refine W_val (.agg #[.slice p3253 r3251.1.Items.length c3254, .int .i64 r3251.1.Head, .int .i64 r3251.1.Tail]) w3494 (by kernel_rfl) (E_load (e := 27) (fr := (0, 0)) _ _ true 3 b3262 0 [.slice p3253 r3251.1.Items.length c3254, .int .i64 r3251.1.Head, .int .i64 r3251.1.Tail] (.agg #[.slice p3253 r3251.1.Items.length c3254, .int .i64 r3251.1.Head, .int .i64 r3251.1.Tail]) rfl (by kernel_rfl) (by kernel_rfl) (by kernel_rfl) (M3495.blk 2 (b := b3262) (o := .cells ⟨[.slice p3253 r3251.1.Items.length c3254, .int .i64 r3251.1.Head, .int .i64 r3251.1.Tail]⟩ 27 (0, 0)) (by kernel_rfl))) ?_
                      obtain ⟨r3505, hr3505, hm⟩ := gx_bind hm
                      refine W_call 18 #[.agg #[.slice p3482 r3480.1.Items.length c3483, .int .i64 r3480.1.Head, .int .i64 r3480.1.Tail], .agg #[.slice p3253 r3251.1.Items.length c3254, .int .i64 r3251.1.Head, .int .i64 r3251.1.Tail]] (by kernel_rfl) (by kernel_rfl) ?_
                      refine (c_l_eqRing w3494 r3480.1 p3482 c3483 (ho3485.rd M3495 6 (by kernel_rfl)) r3251.1 p3253 c3254 (ho3256.rd M3495 1 (by kernel_rfl)) hr3505).mono ?_
                      rintro e_ w3506 ⟨rfl, K3507⟩
                      have M3508 := M3495.call0 K3507
                      refine ⟨_, rfl, ?_⟩
                      refine W_run 2 [(5, .int .i64 r3251.2.1), (6, .bool r3251.2.2), (8, .pointer (some ⟨b3373, 0, none⟩)), (12, .int .i64 r3457.1), (15, .int .i64 r3480.2.1), (16, .bool r3480.2.2), (99, .bool (!r3505))] w3506 (by kernel_rfl) ?_
                      rcases gx_bif hm with ⟨hc3509, hm⟩ | ⟨hc3509, hm⟩
                      · refine W_known 99 true (by kernel_rfl) hc3509 ?_
                        refine W_run 9 [(8, .pointer (some ⟨b3373, 0, none⟩)), (12, .int .i64 r3457.1), (108, .bool true)] w3506 (by kernel_rfl) ?_
                        refine W_nil ?_
                        obtain rfl := Option.some.inj hm
                        exact N_meet fun a ha => ⟨M3508.pick [3, 4] (by kernel_rfl), ha.sub (by kernel_rfl)⟩
                      · refine W_known 99 false (by kernel_rfl) hc3509 ?_
                        refine W_run 5 [(6, .bool r3251.2.2), (8, .pointer (some ⟨b3373, 0, none⟩)), (12, .int .i64 r3457.1), (16, .bool r3480.2.2), (104, .bool (r3480.2.1 != r3251.2.1))] w3506 (by kernel_rfl) ?_
                        rcases gx_bif hm with ⟨hc3510, hm⟩ | ⟨hc3510, hm⟩
                        · refine W_known 104 true (by kernel_rfl) hc3510 ?_
                          refine W_run 4 [(8, .pointer (some ⟨b3373, 0, none⟩)), (12, .int .i64 r3457.1), (108, .bool true)] w3506 (by kernel_rfl) ?_
                          refine W_nil ?_
                          obtain rfl := Option.some.inj hm
                          exact N_meet fun a ha => ⟨M3508.pick [3, 4] (by kernel_rfl), ha.sub (by kernel_rfl)⟩
                        · refine W_known 104 false (by kernel_rfl) hc3510 ?_
                          refine W_run 4 [(8, .pointer (some ⟨b3373, 0, none⟩)), (12, .int .i64 r3457.1), (108, .bool (!(r3480.2.2 == r3251.2.2)))] w3506 (by kernel_rfl) ?_
                          refine W_nil ?_
                          obtain rfl := Option.some.inj hm
                          exact N_meet fun a ha => ⟨M3508.pick [3, 4] (by kernel_rfl), ha.sub (by kernel_rfl)⟩
                    · intro a3513 w3511 ⟨M3512, hS3514⟩
                      refine N_use hS3514 ?_
                      have hm := hm3504
                      refine N_then ?_
                      rcases gx_bif hm with ⟨hc3515, hm⟩ | ⟨hc3515, hm⟩
                      · refine G_cond_t (b := o3502) hc3515 (by kernel_rfl) ?_
                        refine G_seq ?_
                        refine G_region ?_
                        refine W_run 1 [(2, .bool false)] w3511 (by kernel_rfl) ?_
                        refine W_nil ?_
                        refine N_then ?_
                        refine G_ret ?_
                        refine N_then_ret ?_
                        obtain rfl := Option.some.inj hm
                        refine N_ret [.bool false] (RVs_cons (RV_tmp (by kernel_rfl)) RVs_nil) ?_
                        exact ⟨rfl, M3512.pick [] (by kernel_rfl)⟩
                      · refine G_cond_f (b := o3502) hc3515 (by kernel_rfl) ?_
                        refine G_skip ?_
                        refine N_then ?_
                        refine G_seq ?_
                        refine G_region ?_
                        refine W_run 1 [(8, .pointer (some ⟨b3373, 0, none⟩)), (12, .int .i64 r3457.1), (13, .int .i64 1)] w3511 (by kernel_rfl) ?_
                        refine W_nil ?_
                        refine N_then ?_
                        refine G_seq ?_
                        refine G_region ?_
                        refine W_val (.agg #[.slice p3364 r3457.2.length c3365, .int .i64 r3362.1.Head, .int .i64 r3362.1.Tail]) w3511 (by kernel_rfl) (E_load (e := 27) (fr := (0, 0)) _ _ true 3 b3373 0 [.slice p3364 r3457.2.length c3365, .int .i64 r3362.1.Head, .int .i64 r3362.1.Tail] (.agg #[.slice p3364 r3457.2.length c3365, .int .i64 r3362.1.Head, .int .i64 r3362.1.Tail]) rfl (by kernel_rfl) (by kernel_rfl) (by kernel_rfl) (M3512.blk 0 (b := b3373) (o := .cells ⟨[.slice p3364 r3457.2.length c3365, .int .i64 r3362.1.Head, .int .i64 r3362.1.Tail]⟩ 27 (0, 0)) (by kernel_rfl))) ?_
                        refine W_run 1 [(12, .int .i64 r3457.1), (13, .int .i64 1), (109, .agg #[.slice p3364 r3457.2.length c3365, .int .i64 r3362.1.Head, .int .i64 r3362.1.Tail]), (110, .int .i64 1)] w3511 (by kernel_rfl) ?_
                        obtain ⟨r3516, hr3516, hm⟩ := gx_bind hm
                        refine W_call 20 #[.agg #[.slice p3364 r3457.2.length c3365, .int .i64 r3362.1.Head, .int .i64 r3362.1.Tail], .int .i64 1] (by kernel_rfl) (by kernel_rfl) ?_
                        refine (c_l_heldRing w3511 (⟨r3457.2, r3362.1.Head, r3362.1.Tail⟩ : Ring) p3364 c3365 (ho3459.rd M3512 1 (by kernel_rfl)) 1 hr3516).mono ?_
                        rintro e_ w3517 ⟨rfl, K3518⟩
                        have M3519 := M3512.call0 K3518
                        refine ⟨_, rfl, ?_⟩
                        refine W_run 1 [(12, .int .i64 r3457.1), (13, .int .i64 r3516)] w3517 (by kernel_rfl) ?_
                        refine W_nil ?_
                        refine N_then ?_
                        refine G_seq ?_
                        refine G_seq ?_
                        refine G_region ?_
                        refine W_run 2 [(12, .int .i64 r3457.1), (13, .int .i64 r3516), (113, .bool (decide (r3516 < 0)))] w3517 (by kernel_rfl) ?_
                        refine W_nil ?_
                        refine N_then ?_
                        rcases gx_bif hm with ⟨hc3520, hm⟩ | ⟨hc3520, hm⟩
                        · refine G_cond_t (b := (decide (r3516 < 0))) hc3520 (by kernel_rfl) ?_
                          refine G_seq ?_
                          refine G_region ?_
                          refine W_run 1 [(2, .bool false)] w3517 (by kernel_rfl) ?_
                          refine W_nil ?_
                          refine N_then ?_
                          refine G_ret ?_
                          refine N_then_ret ?_
                          obtain rfl := Option.some.inj hm
                          refine N_ret [.bool false] (RVs_cons (RV_tmp (by kernel_rfl)) RVs_nil) ?_
                          exact ⟨rfl, M3519.pick [] (by kernel_rfl)⟩
                        · refine G_cond_f (b := (decide (r3516 < 0))) hc3520 (by kernel_rfl) ?_
                          refine G_skip ?_
                          refine N_then ?_
                          refine G_seq ?_
                          refine G_seq ?_
                          refine G_region ?_
                          refine W_run 3 [(116, .bool (r3516 != r3457.1))] w3517 (by kernel_rfl) ?_
                          refine W_nil ?_
                          refine N_then ?_
                          rcases gx_bif hm with ⟨hc3521, hm⟩ | ⟨hc3521, hm⟩
                          · refine G_cond_t (b := (r3516 != r3457.1)) hc3521 (by kernel_rfl) ?_
                            refine G_seq ?_
                            refine G_region ?_
                            refine W_run 1 [(2, .bool false)] w3517 (by kernel_rfl) ?_
                            refine W_nil ?_
                            refine N_then ?_
                            refine G_ret ?_
                            refine N_then_ret ?_
                            obtain rfl := Option.some.inj hm
                            refine N_ret [.bool false] (RVs_cons (RV_tmp (by kernel_rfl)) RVs_nil) ?_
                            exact ⟨rfl, M3519.pick [] (by kernel_rfl)⟩
                          · refine G_cond_f (b := (r3516 != r3457.1)) hc3521 (by kernel_rfl) ?_
                            refine G_skip ?_
                            refine N_then ?_
                            refine G_seq ?_
                            refine G_region ?_
                            refine W_run 1 [(2, .bool true)] w3517 (by kernel_rfl) ?_
                            refine W_nil ?_
                            refine N_then ?_
                            refine G_ret ?_
                            obtain rfl := Option.some.inj hm
                            refine N_ret [.bool true] (RVs_cons (RV_tmp (by kernel_rfl)) RVs_nil) ?_
                            exact ⟨rfl, M3519.pick [] (by kernel_rfl)⟩
theorem c_s_l20Put (w : World) (x3666 : Ring) (p3668 : Option Addr) (c3669 : Nat) (h3670 : rdS encI w x3666.Items p3668 c3669) (x3671 : Int) {r : Ring × Bool} (hm : M.s_l20Put x3666 x3671 = some r) :
    Calls Try.prog 67 #[.agg #[.slice p3668 x3666.Items.length c3669, .int .i64 x3666.Head, .int .i64 x3666.Tail], .int .i64 x3671] w fun e w' => ∃ (p3673 : Option Addr) (c3674 : Nat) (sg3675 : Seg), e = .returned (.tuple #[.agg #[.slice p3673 r.1.Items.length c3674, .int .i64 r.1.Head, .int .i64 r.1.Tail], .bool r.2]) ∧ ownS encI r.1.Items p3673 c3674 sg3675 ∧ Mem [] w w' [sg3675] := by
  unfold M.s_l20Put at hm
  refine C_enter Try.func67 rfl (by kernel_rfl) ?_
  have M0 := Mem.refl [] w
  refine G_seq ?_
  refine G_region ?_
  refine W_new (fun b => .pointer (some ⟨b, 0, none⟩)) (.cells ⟨[.slice p3668 x3666.Items.length c3669, .int .i64 x3666.Head, .int .i64 x3666.Tail]⟩ 27 (0, 0)) M0 rfl (by kernel_rfl) (by kernel_rfl) ?_
  intro b3677 w3678 M3679
  refine W_new (fun b => .pointer (some ⟨b, 0, none⟩)) (.cells ⟨[.slice none 0 0, .int .i64 0, .int .i64 0]⟩ 27 (0, 0)) M3679 rfl (by kernel_rfl) (by kernel_rfl) ?_
  intro b3682 w3683 M3684
  refine W_run 1 [(1, .int .i64 x3671), (2, .pointer (some ⟨b3677, 0, none⟩)), (4, .pointer (some ⟨b3682, 0, none⟩))] w3683 (by kernel_rfl) ?_
  refine W_nil ?_
  refine N_then ?_
  refine G_seq ?_
  obtain ⟨r3687, hr3687, hm⟩ := gx_bind hm
  refine G_sub [(1, .int .i64 x3671), (2, .pointer (some ⟨b3677, 0, none⟩)), (4, .pointer (some ⟨b3682, 0, none⟩))] (by kernel_rfl) ?_
  refine G_dagL 9 [[], [0], [1], [], [3], [], [5], [4, 6], []] [[], [], [], [], [], [], [], [], []] [[], [], [], [], [], [], [], [], []] [[], [], [], [], [], [], [], [2], []] [[], [], [], [], [], [], [], [2], []] [[], [], [], [], [], [], [], [], []] (fun _ => []) (fun i => ([fun f v s => v = (.pointer (some ⟨b3677, 0, none⟩) : Value) ∧ s = [], fun f v s => v = (.slice p3668 x3666.Items.length c3669 : Value) ∧ s = [], fun f v s => ∃ (p3689 : Option Addr) (c3690 : Nat), v = (.slice p3689 r3687.length c3690 : Value) ∧ ownS encI r3687 p3689 c3690 s, fun f v s => v = (.pointer (some ⟨b3677, 1, none⟩) : Value) ∧ s = [], fun f v s => v = (.int .i64 x3666.Head : Value) ∧ s = [], fun f v s => v = (.pointer (some ⟨b3677, 2, none⟩) : Value) ∧ s = [], fun f v s => v = (.int .i64 x3666.Tail : Value) ∧ s = [], fun f v s => v = (.agg #[(atPath (f 2) []), .int .i64 x3666.Head, .int .i64 x3666.Tail] : Value) ∧ s = [], fun f v s => ∃ (b3696 : Nat), v = (.pointer (some ⟨b3696, 0, none⟩) : Value) ∧ s = [(b3696, .cells ⟨[.slice none 0 0, .int .i64 0, .int .i64 0]⟩ 27 (0, 0))]] : List ((Nat → Value) → Value → Seg → Prop)).getD i (fun _ _ _ => False)) (fun j f v => ∃ s, (fun i => ([fun f v s => v = (.pointer (some ⟨b3677, 0, none⟩) : Value) ∧ s = [], fun f v s => v = (.slice p3668 x3666.Items.length c3669 : Value) ∧ s = [], fun f v s => ∃ (p3689 : Option Addr) (c3690 : Nat), v = (.slice p3689 r3687.length c3690 : Value) ∧ ownS encI r3687 p3689 c3690 s, fun f v s => v = (.pointer (some ⟨b3677, 1, none⟩) : Value) ∧ s = [], fun f v s => v = (.int .i64 x3666.Head : Value) ∧ s = [], fun f v s => v = (.pointer (some ⟨b3677, 2, none⟩) : Value) ∧ s = [], fun f v s => v = (.int .i64 x3666.Tail : Value) ∧ s = [], fun f v s => v = (.agg #[(atPath (f 2) []), .int .i64 x3666.Head, .int .i64 x3666.Tail] : Value) ∧ s = [], fun f v s => ∃ (b3696 : Nat), v = (.pointer (some ⟨b3696, 0, none⟩) : Value) ∧ s = [(b3696, .cells ⟨[.slice none 0 0, .int .i64 0, .int .i64 0]⟩ 27 (0, 0))]] : List ((Nat → Value) → Value → Seg → Prop)).getD i (fun _ _ _ => False)) j f v s) [] [2, 7, 8] [2, 8] (fun _ _ _ s h => ⟨s, h⟩) (by kernel_rfl) (by kernel_rfl) (M3684.preNil 9) (by kernel_rfl) (by kernel_rfl) (by kernel_rfl) (by kernel_rfl) (allOb_cons ?_ (allOb_cons ?_ (allOb_cons ?_ (allOb_cons ?_ (allOb_cons ?_ (allOb_cons ?_ (allOb_cons ?_ (allOb_cons ?_ (allOb_cons ?_ allOb_nil))))))))) ?_
  · intro g3685 f3686
    intro R w3697 M3698
    refine W_run 1 [(7, .pointer (some ⟨b3677, 0, none⟩))] w3697 (by kernel_rfl) ?_
    exact W_nil (ob_end (.pointer (some ⟨b3677, 0, none⟩)) [] rfl (by kernel_rfl) ⟨by kernel_rfl, rfl⟩ M3698)
  · intro g3685 f3686
    intro v0_ hb0_
    obtain ⟨rfl, _⟩ := hb0_
    intro R w3701 M3702
    refine W_val (.slice p3668 x3666.Items.length c3669) w3701 (by kernel_rfl) (E_load (e := 27) (fr := (0, 0)) _ _ false 1 b3677 0 [.slice p3668 x3666.Items.length c3669, .int .i64 x3666.Head, .int .i64 x3666.Tail] (.slice p3668 x3666.Items.length c3669) rfl (by kernel_rfl) (by kernel_rfl) (by kernel_rfl) (M3702.blk 0 (b := b3677) (o := .cells ⟨[.slice p3668 x3666.Items.length c3669, .int .i64 x3666.Head, .int .i64 x3666.Tail]⟩ 27 (0, 0)) (by kernel_rfl))) ?_
    exact W_nil (ob_end (.slice p3668 x3666.Items.length c3669) [] rfl (by kernel_rfl) ⟨by kernel_rfl, rfl⟩ M3702)
  · intro g3685 f3686
    intro v1_ hb1_
    obtain ⟨rfl, _⟩ := hb1_
    intro R w3705 M3706
    refine W_call 62 #[.slice p3668 x3666.Items.length c3669] (by kernel_rfl) (by kernel_rfl) ?_
    refine (c_s_l1Own w3705 x3666.Items p3668 c3669 (h3670.mem0 M3706) hr3687).mono ?_
    rintro e_ w3707 ⟨p3689, c3690, sg3691, rfl, ho3692, K3709⟩
    refine ⟨_, rfl, ?_⟩
    exact W_nil (ob_end (.slice p3689 r3687.length c3690) sg3691 rfl (by kernel_rfl) ⟨p3689, c3690, rfl, ho3692⟩ (Mem.callMid M3706 K3709))
  · intro g3685 f3686
    intro R w3710 M3711
    refine W_run 1 [(10, .pointer (some ⟨b3677, 1, none⟩))] w3710 (by kernel_rfl) ?_
    exact W_nil (ob_end (.pointer (some ⟨b3677, 1, none⟩)) [] rfl (by kernel_rfl) ⟨by kernel_rfl, rfl⟩ M3711)
  · intro g3685 f3686
    intro v3_ hb3_
    obtain ⟨rfl, _⟩ := hb3_
    intro R w3714 M3715
    refine W_val (.int .i64 x3666.Head) w3714 (by kernel_rfl) (E_load (e := 27) (fr := (0, 0)) _ _ false 1 b3677 1 [.slice p3668 x3666.Items.length c3669, .int .i64 x3666.Head, .int .i64 x3666.Tail] (.int .i64 x3666.Head) rfl (by kernel_rfl) (by kernel_rfl) (by kernel_rfl) (M3715.blk 0 (b := b3677) (o := .cells ⟨[.slice p3668 x3666.Items.length c3669, .int .i64 x3666.Head, .int .i64 x3666.Tail]⟩ 27 (0, 0)) (by kernel_rfl))) ?_
    exact W_nil (ob_end (.int .i64 x3666.Head) [] rfl (by kernel_rfl) ⟨by kernel_rfl, rfl⟩ M3715)
  · intro g3685 f3686
    intro R w3718 M3719
    refine W_run 1 [(12, .pointer (some ⟨b3677, 2, none⟩))] w3718 (by kernel_rfl) ?_
    exact W_nil (ob_end (.pointer (some ⟨b3677, 2, none⟩)) [] rfl (by kernel_rfl) ⟨by kernel_rfl, rfl⟩ M3719)
  · intro g3685 f3686
    intro v5_ hb5_
    obtain ⟨rfl, _⟩ := hb5_
    intro R w3722 M3723
    refine W_val (.int .i64 x3666.Tail) w3722 (by kernel_rfl) (E_load (e := 27) (fr := (0, 0)) _ _ false 1 b3677 2 [.slice p3668 x3666.Items.length c3669, .int .i64 x3666.Head, .int .i64 x3666.Tail] (.int .i64 x3666.Tail) rfl (by kernel_rfl) (by kernel_rfl) (by kernel_rfl) (M3723.blk 0 (b := b3677) (o := .cells ⟨[.slice p3668 x3666.Items.length c3669, .int .i64 x3666.Head, .int .i64 x3666.Tail]⟩ 27 (0, 0)) (by kernel_rfl))) ?_
    exact W_nil (ob_end (.int .i64 x3666.Tail) [] rfl (by kernel_rfl) ⟨by kernel_rfl, rfl⟩ M3723)
  · intro g3685 f3686
    intro v2_ hb2_
    obtain ⟨_, p3689, c3690, rfl, _⟩ := hb2_
    intro v4_ hb4_
    obtain ⟨rfl, _⟩ := hb4_
    intro v6_ hb6_
    obtain ⟨rfl, _⟩ := hb6_
    intro R w3726 M3727
    refine W_run 1 [(14, .agg #[.slice p3689 r3687.length c3690, .int .i64 x3666.Head, .int .i64 x3666.Tail])] w3726 (by kernel_rfl) ?_
    exact W_nil (ob_end (.agg #[.slice p3689 r3687.length c3690, .int .i64 x3666.Head, .int .i64 x3666.Tail]) [] rfl (by kernel_rfl) ⟨by kernel_rfl, rfl⟩ M3727)
  · intro g3685 f3686
    intro R w3730 M3731
    refine W_new (fun b => .pointer (some ⟨b, 0, none⟩)) (.cells ⟨[.slice none 0 0, .int .i64 0, .int .i64 0]⟩ 27 (0, 0)) M3731 rfl (by kernel_rfl) (by kernel_rfl) ?_
    intro b3696 w3732 M3733
    exact W_nil (ob_end (.pointer (some ⟨b3696, 0, none⟩)) [(b3696, .cells ⟨[.slice none 0 0, .int .i64 0, .int .i64 0]⟩ 27 (0, 0))] rfl (by kernel_rfl) ⟨b3696, rfl, rfl⟩ (Mem.mid M3733))
  · intro g3685 f3686
    intro v2_ hb2_
    obtain ⟨p3689, c3690, rfl, ho3692⟩ := hb2_
    intro v7_ hb7_
    obtain ⟨hv7_, _⟩ := hb7_
    obtain rfl : v7_ = (.agg #[.slice p3689 r3687.length c3690, .int .i64 x3666.Head, .int .i64 x3666.Tail] : Value) := hv7_.trans (by kernel_rfl)
    intro v8_ hb8_
    obtain ⟨b3696, rfl, hs8_⟩ := hb8_
    intro w3734 M3735
    have M3736 : Mem [] w w3734 [[(b3677, .cells ⟨[.slice p3668 x3666.Items.length c3669, .int .i64 x3666.Head, .int .i64 x3666.Tail]⟩ 27 (0, 0))], [(b3682, .cells ⟨[.slice none 0 0, .int .i64 0, .int .i64 0]⟩ 27 (0, 0))], (g3685 2), (g3685 8)] := M3735
    rw [hs8_] at M3736
    refine W_store _ _ _ true 3 b3696 0 [.slice none 0 0, .int .i64 0, .int .i64 0] 27 (.agg #[.slice p3689 r3687.length c3690, .int .i64 x3666.Head, .int .i64 x3666.Tail]) 3 [.slice p3689 r3687.length c3690, .int .i64 x3666.Head, .int .i64 x3666.Tail] M3736 (by kernel_rfl) rfl (by kernel_rfl) (by kernel_rfl) (by kernel_rfl) (by kernel_rfl) (by kernel_rfl) (by kernel_rfl) (by kernel_rfl) (by kernel_rfl) ?_
    intro w3737 M3738
    refine W_nil ?_
    refine N_then ?_
    refine G_seq ?_
    refine G_seq ?_
    refine G_quiet (by kernel_rfl) (by kernel_rfl) M3738 ?_
    refine Z_val (.agg #[.slice p3668 x3666.Items.length c3669, .int .i64 x3666.Head, .int .i64 x3666.Tail]) (by kernel_rfl) (fun w_ M_ => (E_load (e := 27) (fr := (0, 0)) _ _ true 3 b3677 0 [.slice p3668 x3666.Items.length c3669, .int .i64 x3666.Head, .int .i64 x3666.Tail] (.agg #[.slice p3668 x3666.Items.length c3669, .int .i64 x3666.Head, .int .i64 x3666.Tail]) rfl (by kernel_rfl) (by kernel_rfl) (by kernel_rfl) (M_.blk 0 (b := b3677) (o := .cells ⟨[.slice p3668 x3666.Items.length c3669, .int .i64 x3666.Head, .int .i64 x3666.Tail]⟩ 27 (0, 0)) (by kernel_rfl)))) ?_
    obtain ⟨r3739, hr3739, hm⟩ := gx_bind hm
    refine Z_call 63 #[.agg #[.slice p3668 x3666.Items.length c3669, .int .i64 x3666.Head, .int .i64 x3666.Tail]] (.int .i64 r3739) (by kernel_rfl) (fun w_ => by kernel_rfl) (fun w_ M_ => (c_s_l20Count w_ x3666 p3668 c3669 (h3670.mem0 M_) hr3739).mono fun e w2_ h_ => ⟨h_.1, M_.call0 h_.2⟩) ?_
    refine Z_runs [.pointer (some ⟨b3677, 0, none⟩)] [(1, .int .i64 x3671), (2, .pointer (some ⟨b3677, 0, none⟩)), (4, .pointer (some ⟨b3682, 0, none⟩)), (6, .pointer (some ⟨b3696, 0, none⟩)), (16, .int .i64 r3739), (17, .pointer (some ⟨b3677, 0, none⟩))] (fun w_ => by kernel_rfl) (by kernel_rfl) ?_
    refine Z_val (.slice p3668 x3666.Items.length c3669) (by kernel_rfl) (fun w_ M_ => (E_load (e := 27) (fr := (0, 0)) _ _ false 1 b3677 0 [.slice p3668 x3666.Items.length c3669, .int .i64 x3666.Head, .int .i64 x3666.Tail] (.slice p3668 x3666.Items.length c3669) rfl (by kernel_rfl) (by kernel_rfl) (by kernel_rfl) (M_.blk 0 (b := b3677) (o := .cells ⟨[.slice p3668 x3666.Items.length c3669, .int .i64 x3666.Head, .int .i64 x3666.Tail]⟩ 27 (0, 0)) (by kernel_rfl)))) ?_
    refine Z_runs [.int .i64 (x3666.Items.length : Int), .bool (r3739 == (x3666.Items.length : Int))] [(1, .int .i64 x3671), (2, .pointer (some ⟨b3677, 0, none⟩)), (4, .pointer (some ⟨b3682, 0, none⟩)), (6, .pointer (some ⟨b3696, 0, none⟩)), (20, .bool (r3739 == (x3666.Items.length : Int)))] (fun w_ => by kernel_rfl) (by kernel_rfl) ?_
    refine Z_end fun w3743 M3744 => ?_
    refine N_then ?_
    rcases gx_bif hm with ⟨hc3745, hm⟩ | ⟨hc3745, hm⟩
    · refine G_cond_t (b := (r3739 == (x3666.Items.length : Int))) hc3745 (by kernel_rfl) ?_
      refine G_seq ?_
      refine G_region ?_
      refine W_val (.agg #[.slice p3689 r3687.length c3690, .int .i64 x3666.Head, .int .i64 x3666.Tail]) w3743 (by kernel_rfl) (E_load (e := 27) (fr := (0, 0)) _ _ true 3 b3696 0 [.slice p3689 r3687.length c3690, .int .i64 x3666.Head, .int .i64 x3666.Tail] (.agg #[.slice p3689 r3687.length c3690, .int .i64 x3666.Head, .int .i64 x3666.Tail]) rfl (by kernel_rfl) (by kernel_rfl) (by kernel_rfl) (M3744.blk 3 (b := b3696) (o := .cells ⟨[.slice p3689 r3687.length c3690, .int .i64 x3666.Head, .int .i64 x3666.Tail]⟩ 27 (0, 0)) (by kernel_rfl))) ?_
      refine W_store _ _ _ true 3 b3682 0 [.slice none 0 0, .int .i64 0, .int .i64 0] 27 (.agg #[.slice p3689 r3687.length c3690, .int .i64 x3666.Head, .int .i64 x3666.Tail]) 1 [.slice p3689 r3687.length c3690, .int .i64 x3666.Head, .int .i64 x3666.Tail] M3744 (by kernel_rfl) rfl (by kernel_rfl) (by kernel_rfl) (by kernel_rfl) (by kernel_rfl) (by kernel_rfl) (by kernel_rfl) (by kernel_rfl) (by kernel_rfl) ?_
      intro w3746 M3747
      refine W_run 1 [(4, .pointer (some ⟨b3682, 0, none⟩)), (5, .bool false)] w3746 (by kernel_rfl) ?_
      refine W_nil ?_
      refine N_then ?_
      refine G_ret ?_
      refine N_then_ret ?_
      obtain rfl := Option.some.inj hm
      refine N_ret [.agg #[.slice p3689 r3687.length c3690, .int .i64 x3666.Head, .int .i64 x3666.Tail], .bool false] (RVs_cons (RV_cell (g := true) (k := 3) (b := b3682) (off := 0) (cs := [.slice p3689 r3687.length c3690, .int .i64 x3666.Head, .int .i64 x3666.Tail]) (e := 27) (fr := (0, 0)) (v := .agg #[.slice p3689 r3687.length c3690, .int .i64 x3666.Head, .int .i64 x3666.Tail]) (M3747.blk 1 (b := b3682) (o := .cells ⟨[.slice p3689 r3687.length c3690, .int .i64 x3666.Head, .int .i64 x3666.Tail]⟩ 27 (0, 0)) (by kernel_rfl)) (by kernel_rfl) (by kernel_rfl) (by kernel_rfl)) (RVs_cons (RV_tmp (by kernel_rfl)) RVs_nil)) ?_
      exact ⟨p3689, c3690, (g3685 2), rfl, ho3692, M3747.pick [2] (by kernel_rfl)⟩
    · refine G_cond_f (b := (r3739 == (x3666.Items.length : Int))) hc3745 (by kernel_rfl) ?_
      refine G_skip ?_
      refine N_then ?_
      refine G_seq ?_
      obtain ⟨q3750, hq3750, hm⟩ := gx_bind hm
      refine G_sub [(1, .int .i64 x3671), (2, .pointer (some ⟨b3677, 0, none⟩)), (4, .pointer (some ⟨b3682, 0, none⟩)), (6, .pointer (some ⟨b3696, 0, none⟩)), (20, .bool (r3739 == (x3666.Items.length : Int)))] (by kernel_rfl) ?_
      refine G_dagL 9 [[], [0], [], [2], [], [4], [5], [3, 6], []] [[], [], [], [], [], [], [], [], []] [[], [], [], [], [], [], [], [], []] [[], [], [], [], [], [], [], [], []] [[], [], [], [], [], [], [], [], []] [[], [], [], [], [], [], [], [], []] (fun _ => []) (fun i => ([fun f v s => v = (.pointer (some ⟨b3696, 0, none⟩) : Value) ∧ s = [], fun f v s => v = (.slice p3689 r3687.length c3690 : Value) ∧ s = [], fun f v s => v = (.pointer (some ⟨b3677, 2, none⟩) : Value) ∧ s = [], fun f v s => v = (.int .i64 x3666.Tail : Value) ∧ s = [], fun f v s => v = (.pointer (some ⟨b3677, 0, none⟩) : Value) ∧ s = [], fun f v s => v = (.slice p3668 x3666.Items.length c3669 : Value) ∧ s = [], fun f v s => v = (.int .i64 (x3666.Items.length : Int) : Value) ∧ s = [], fun f v s => v = (.int .i64 q3750 : Value) ∧ s = [], fun f v s => v = (.int .i64 x3671 : Value) ∧ s = []] : List ((Nat → Value) → Value → Seg → Prop)).getD i (fun _ _ _ => False)) (fun j f v => ∃ s, (fun i => ([fun f v s => v = (.pointer (some ⟨b3696, 0, none⟩) : Value) ∧ s = [], fun f v s => v = (.slice p3689 r3687.length c3690 : Value) ∧ s = [], fun f v s => v = (.pointer (some ⟨b3677, 2, none⟩) : Value) ∧ s = [], fun f v s => v = (.int .i64 x3666.Tail : Value) ∧ s = [], fun f v s => v = (.pointer (some ⟨b3677, 0, none⟩) : Value) ∧ s = [], fun f v s => v = (.slice p3668 x3666.Items.length c3669 : Value) ∧ s = [], fun f v s => v = (.int .i64 (x3666.Items.length : Int) : Value) ∧ s = [], fun f v s => v = (.int .i64 q3750 : Value) ∧ s = [], fun f v s => v = (.int .i64 x3671 : Value) ∧ s = []] : List ((Nat → Value) → Value → Seg → Prop)).getD i (fun _ _ _ => False)) j f v s) [] [1, 7, 8] [] (fun _ _ _ s h => ⟨s, h⟩) (by kernel_rfl) (by kernel_rfl) (M3744.preNil 9) (by kernel_rfl) (by kernel_rfl) (by kernel_rfl) (by kernel_rfl) (allOb_cons ?_ (allOb_cons ?_ (allOb_cons ?_ (allOb_cons ?_ (allOb_cons ?_ (allOb_cons ?_ (allOb_cons ?_ (allOb_cons ?_ (allOb_cons ?_ allOb_nil))))))))) ?_
      · intro g3748 f3749
        intro R w3751 M3752
        refine W_run 1 [(22, .pointer (some ⟨b3696, 0, none⟩))] w3751 (by kernel_rfl) ?_
        exact W_nil (ob_end (.pointer (some ⟨b3696, 0, none⟩)) [] rfl (by kernel_rfl) ⟨by kernel_rfl, rfl⟩ M3752)
      · intro g3748 f3749
        intro v0_ hb0_
        obtain ⟨rfl, _⟩ := hb0_
        intro R w3755 M3756
        refine W_val (.slice p3689 r3687.length c3690) w3755 (by kernel_rfl) (E_load (e := 27) (fr := (0, 0)) _ _ false 1 b3696 0 [.slice p3689 r3687.length c3690, .int .i64 x3666.Head, .int .i64 x3666.Tail] (.slice p3689 r3687.length c3690) rfl (by kernel_rfl) (by kernel_rfl) (by kernel_rfl) (M3756.blk 3 (b := b3696) (o := .cells ⟨[.slice p3689 r3687.length c3690, .int .i64 x3666.Head, .int .i64 x3666.Tail]⟩ 27 (0, 0)) (by kernel_rfl))) ?_
        exact W_nil (ob_end (.slice p3689 r3687.length c3690) [] rfl (by kernel_rfl) ⟨by kernel_rfl, rfl⟩ M3756)
      · intro g3748 f3749
        intro R w3759 M3760
        refine W_run 1 [(24, .pointer (some ⟨b3677, 2, none⟩))] w3759 (by kernel_rfl) ?_
        exact W_nil (ob_end (.pointer (some ⟨b3677, 2, none⟩)) [] rfl (by kernel_rfl) ⟨by kernel_rfl, rfl⟩ M3760)
      · intro g3748 f3749
        intro v2_ hb2_
        obtain ⟨rfl, _⟩ := hb2_
        intro R w3763 M3764
        refine W_val (.int .i64 x3666.Tail) w3763 (by kernel_rfl) (E_load (e := 27) (fr := (0, 0)) _ _ false 1 b3677 2 [.slice p3668 x3666.Items.length c3669, .int .i64 x3666.Head, .int .i64 x3666.Tail] (.int .i64 x3666.Tail) rfl (by kernel_rfl) (by kernel_rfl) (by kernel_rfl) (M3764.blk 0 (b := b3677) (o := .cells ⟨[.slice p3668 x3666.Items.length c3669, .int .i64 x3666.Head, .int .i64 x3666.Tail]⟩ 27 (0, 0)) (by kernel_rfl))) ?_
        exact W_nil (ob_end (.int .i64 x3666.Tail) [] rfl (by kernel_rfl) ⟨by kernel_rfl, rfl⟩ M3764)
      · intro g3748 f3749
        intro R w3767 M3768
        refine W_run 1 [(26, .pointer (some ⟨b3677, 0, none⟩))] w3767 (by kernel_rfl) ?_
        exact W_nil (ob_end (.pointer (some ⟨b3677, 0, none⟩)) [] rfl (by kernel_rfl) ⟨by kernel_rfl, rfl⟩ M3768)
      · intro g3748 f3749
        intro v4_ hb4_
        obtain ⟨rfl, _⟩ := hb4_
        intro R w3771 M3772
        refine W_val (.slice p3668 x3666.Items.length c3669) w3771 (by kernel_rfl) (E_load (e := 27) (fr := (0, 0)) _ _ false 1 b3677 0 [.slice p3668 x3666.Items.length c3669, .int .i64 x3666.Head, .int .i64 x3666.Tail] (.slice p3668 x3666.Items.length c3669) rfl (by kernel_rfl) (by kernel_rfl) (by kernel_rfl) (M3772.blk 0 (b := b3677) (o := .cells ⟨[.slice p3668 x3666.Items.length c3669, .int .i64 x3666.Head, .int .i64 x3666.Tail]⟩ 27 (0, 0)) (by kernel_rfl))) ?_
        exact W_nil (ob_end (.slice p3668 x3666.Items.length c3669) [] rfl (by kernel_rfl) ⟨by kernel_rfl, rfl⟩ M3772)
      · intro g3748 f3749
        intro v5_ hb5_
        obtain ⟨rfl, _⟩ := hb5_
        intro R w3775 M3776
        refine W_run 1 [(28, .int .i64 (x3666.Items.length : Int))] w3775 (by kernel_rfl) ?_
        exact W_nil (ob_end (.int .i64 (x3666.Items.length : Int)) [] rfl (by kernel_rfl) ⟨by kernel_rfl, rfl⟩ M3776)
      · intro g3748 f3749
        intro v3_ hb3_
        obtain ⟨rfl, _⟩ := hb3_
        intro v6_ hb6_
        obtain ⟨rfl, _⟩ := hb6_
        intro R w3779 M3780
        refine W_val (.int .i64 q3750) w3779 (by kernel_rfl) (E_rem _ _ _ _ x3666.Tail (x3666.Items.length : Int) q3750 rfl (by kernel_rfl) (by kernel_rfl) hq3750) ?_
        exact W_nil (ob_end (.int .i64 q3750) [] rfl (by kernel_rfl) ⟨by kernel_rfl, rfl⟩ M3780)
      · intro g3748 f3749
        intro R w3783 M3784
        refine W_run 1 [(30, .int .i64 x3671)] w3783 (by kernel_rfl) ?_
        exact W_nil (ob_end (.int .i64 x3671) [] rfl (by kernel_rfl) ⟨by kernel_rfl, rfl⟩ M3784)
      · intro g3748 f3749
        intro v1_ hb1_
        obtain ⟨rfl, _⟩ := hb1_
        intro v7_ hb7_
        obtain ⟨rfl, _⟩ := hb7_
        intro v8_ hb8_
        obtain ⟨rfl, _⟩ := hb8_
        intro w3787 M3788
        have M3789 : Mem [] w w3787 [[(b3677, .cells ⟨[.slice p3668 x3666.Items.length c3669, .int .i64 x3666.Head, .int .i64 x3666.Tail]⟩ 27 (0, 0))], [(b3682, .cells ⟨[.slice none 0 0, .int .i64 0, .int .i64 0]⟩ 27 (0, 0))], (g3685 2), [(b3696, .cells ⟨[.slice p3689 r3687.length c3690, .int .i64 x3666.Head, .int .i64 x3666.Tail]⟩ 27 (0, 0))]] := M3788
        obtain ⟨y3790, hy3790, hm⟩ := gx_bind hm
        refine W_val (elemP p3689 (q3750.toNat * 1)) w3787 (by kernel_rfl) (E_index (E := encI) _ _ _ r3687.length c3690 .i64 q3750 1 (y := y3790) rfl (by kernel_rfl) (by kernel_rfl) (by kernel_rfl) (ho3692.rd M3789 2 (by kernel_rfl)) rfl hy3790) ?_
        refine W_storeE (E := encI) _ _ _ false 1 q3750.toNat 0 (q3750.toNat * 1) y3790 x3671 (.int .i64 x3671) 2 M3789 ho3692 (by kernel_rfl) (by kernel_rfl) rfl (by kernel_rfl) (by kernel_rfl) (by kernel_rfl) (by kernel_rfl) (by kernel_rfl) (by kernel_rfl) (by kernel_rfl) (gxIdx_spec hy3790).2 rfl ?_
        intro w3791 sg3793 ho3794 M3792
        refine W_conv 23 (.slice p3689 r3687.length c3690) (.slice p3689 (r3687.set q3750.toNat x3671).length c3690) (by kernel_rfl) (by rw [List.length_set]) ?_
        have M3795 : Mem [] w w3791 [[(b3677, .cells ⟨[.slice p3668 x3666.Items.length c3669, .int .i64 x3666.Head, .int .i64 x3666.Tail]⟩ 27 (0, 0))], [(b3682, .cells ⟨[.slice none 0 0, .int .i64 0, .int .i64 0]⟩ 27 (0, 0))], sg3793, [(b3696, .cells ⟨[.slice p3689 (r3687.set q3750.toNat x3671).length c3690, .int .i64 x3666.Head, .int .i64 x3666.Tail]⟩ 27 (0, 0))]] := by rw [List.length_set]; exact M3792
        refine W_nil ?_
        refine N_then ?_
        refine G_seq ?_
        refine G_region ?_
        refine W_run 1 [(4, .pointer (some ⟨b3682, 0, none⟩)), (6, .pointer (some ⟨b3696, 0, none⟩)), (32, .pointer (some ⟨b3677, 2, none⟩))] w3791 (by kernel_rfl) ?_
        refine W_val (.int .i64 x3666.Tail) w3791 (by kernel_rfl) (E_load (e := 27) (fr := (0, 0)) _ _ false 1 b3677 2 [.slice p3668 x3666.Items.length c3669, .int .i64 x3666.Head, .int .i64 x3666.Tail] (.int .i64 x3666.Tail) rfl (by kernel_rfl) (by kernel_rfl) (by kernel_rfl) (M3795.blk 0 (b := b3677) (o := .cells ⟨[.slice p3668 x3666.Items.length c3669, .int .i64 x3666.Head, .int .i64 x3666.Tail]⟩ 27 (0, 0)) (by kernel_rfl))) ?_
        refine W_run 3 [(4, .pointer (some ⟨b3682, 0, none⟩)), (6, .pointer (some ⟨b3696, 0, none⟩)), (35, .int .i64 ((w64 (x3666.Tail + 1)).tmod 65536)), (36, .pointer (some ⟨b3696, 2, none⟩))] w3791 (by kernel_rfl) ?_
        refine W_store _ _ _ false 1 b3696 2 [.slice p3689 (r3687.set q3750.toNat x3671).length c3690, .int .i64 x3666.Head, .int .i64 x3666.Tail] 27 (.int .i64 ((w64 (x3666.Tail + 1)).tmod 65536)) 3 [.slice p3689 (r3687.set q3750.toNat x3671).length c3690, .int .i64 x3666.Head, .int .i64 ((w64 (x3666.Tail + 1)).tmod 65536)] M3795 (by kernel_rfl) rfl (by kernel_rfl) (by kernel_rfl) (by kernel_rfl) (by kernel_rfl) (by kernel_rfl) (by kernel_rfl) (by kernel_rfl) (by kernel_rfl) ?_
        intro w3796 M3797
        refine W_nil ?_
        refine N_then ?_
        refine G_seq ?_
        refine G_region ?_
        refine W_val (.agg #[.slice p3689 (r3687.set q3750.toNat x3671).length c3690, .int .i64 x3666.Head, .int .i64 ((w64 (x3666.Tail + 1)).tmod 65536)]) w3796 (by kernel_rfl) (E_load (e := 27) (fr := (0, 0)) _ _ true 3 b3696 0 [.slice p3689 (r3687.set q3750.toNat x3671).length c3690, .int .i64 x3666.Head, .int .i64 ((w64 (x3666.Tail + 1)).tmod 65536)] (.agg #[.slice p3689 (r3687.set q3750.toNat x3671).length c3690, .int .i64 x3666.Head, .int .i64 ((w64 (x3666.Tail + 1)).tmod 65536)]) rfl (by kernel_rfl) (by kernel_rfl) (by kernel_rfl) (M3797.blk 3 (b := b3696) (o := .cells ⟨[.slice p3689 (r3687.set q3750.toNat x3671).length c3690, .int .i64 x3666.Head, .int .i64 ((w64 (x3666.Tail + 1)).tmod 65536)]⟩ 27 (0, 0)) (by kernel_rfl))) ?_
        refine W_store _ _ _ true 3 b3682 0 [.slice none 0 0, .int .i64 0, .int .i64 0] 27 (.agg #[.slice p3689 (r3687.set q3750.toNat x3671).length c3690, .int .i64 x3666.Head, .int .i64 ((w64 (x3666.Tail + 1)).tmod 65536)]) 1 [.slice p3689 (r3687.set q3750.toNat x3671).length c3690, .int .i64 x3666.Head, .int .i64 ((w64 (x3666.Tail + 1)).tmod 65536)] M3797 (by kernel_rfl) rfl (by kernel_rfl) (by kernel_rfl) (by kernel_rfl) (by kernel_rfl) (by kernel_rfl) (by kernel_rfl) (by kernel_rfl) (by kernel_rfl) ?_
        intro w3798 M3799
        refine W_run 1 [(4, .pointer (some ⟨b3682, 0, none⟩)), (5, .bool true)] w3798 (by kernel_rfl) ?_
        refine W_nil ?_
        refine N_then ?_
        refine G_ret ?_
        obtain rfl := Option.some.inj hm
        refine N_ret [.agg #[.slice p3689 (r3687.set q3750.toNat x3671).length c3690, .int .i64 x3666.Head, .int .i64 ((w64 (x3666.Tail + 1)).tmod 65536)], .bool true] (RVs_cons (RV_cell (g := true) (k := 3) (b := b3682) (off := 0) (cs := [.slice p3689 (r3687.set q3750.toNat x3671).length c3690, .int .i64 x3666.Head, .int .i64 ((w64 (x3666.Tail + 1)).tmod 65536)]) (e := 27) (fr := (0, 0)) (v := .agg #[.slice p3689 (r3687.set q3750.toNat x3671).length c3690, .int .i64 x3666.Head, .int .i64 ((w64 (x3666.Tail + 1)).tmod 65536)]) (M3799.blk 1 (b := b3682) (o := .cells ⟨[.slice p3689 (r3687.set q3750.toNat x3671).length c3690, .int .i64 x3666.Head, .int .i64 ((w64 (x3666.Tail + 1)).tmod 65536)]⟩ 27 (0, 0)) (by kernel_rfl)) (by kernel_rfl) (by kernel_rfl) (by kernel_rfl)) (RVs_cons (RV_tmp (by kernel_rfl)) RVs_nil)) ?_
        exact ⟨p3689, c3690, sg3793, rfl, ho3794, M3799.pick [2] (by kernel_rfl)⟩
theorem c_s_ResizeRing (w : World) (x3546 : Ring) (p3548 : Option Addr) (c3549 : Nat) (h3550 : rdS encI w x3546.Items p3548 c3549) (x3551 : Int) {r : Ring × Bool} (hm : M.s_ResizeRing x3546 x3551 = some r) :
    Calls Try.prog 34 #[.agg #[.slice p3548 x3546.Items.length c3549, .int .i64 x3546.Head, .int .i64 x3546.Tail], .int .i64 x3551] w fun e w' => ∃ (p3553 : Option Addr) (c3554 : Nat) (sg3555 : Seg), e = .returned (.tuple #[.agg #[.slice p3553 r.1.Items.length c3554, .int .i64 r.1.Head, .int .i64 r.1.Tail], .bool r.2]) ∧ ownS encI r.1.Items p3553 c3554 sg3555 ∧ Mem [] w w' [sg3555] := by
  unfold M.s_ResizeRing at hm
  refine C_enter Try.func34 rfl (by kernel_rfl) ?_
  have M0 := Mem.refl [] w
  refine G_seq ?_
  refine G_region ?_
  refine W_new (fun b => .pointer (some ⟨b, 0, none⟩)) (.cells ⟨[.slice p3548 x3546.Items.length c3549, .int .i64 x3546.Head, .int .i64 x3546.Tail]⟩ 27 (0, 0)) M0 rfl (by kernel_rfl) (by kernel_rfl) ?_
  intro b3557 w3558 M3559
  refine W_new (fun b => .pointer (some ⟨b, 0, none⟩)) (.cells ⟨[.slice none 0 0, .int .i64 0, .int .i64 0]⟩ 27 (0, 0)) M3559 rfl (by kernel_rfl) (by kernel_rfl) ?_
  intro b3562 w3563 M3564
  refine W_run 1 [(1, .int .i64 x3551), (2, .pointer (some ⟨b3557, 0, none⟩)), (4, .pointer (some ⟨b3562, 0, none⟩))] w3563 (by kernel_rfl) ?_
  refine W_nil ?_
  refine N_then ?_
  refine G_seq ?_
  refine G_seq ?_
  obtain ⟨o3579, ho3580, hm3581⟩ := gx_bind hm
  refine G_meet (fun a w' => Mem [] w w' [[(b3557, .cells ⟨[.slice p3548 x3546.Items.length c3549, .int .i64 x3546.Head, .int .i64 x3546.Tail]⟩ 27 (0, 0))], [(b3562, .cells ⟨[.slice none 0 0, .int .i64 0, .int .i64 0]⟩ 27 (0, 0))]] ∧ Sat Try.f34.ntmps [(1, .int .i64 x3551), (2, .pointer (some ⟨b3557, 0, none⟩)), (4, .pointer (some ⟨b3562, 0, none⟩)), (22, .bool o3579)] a) ?_ ?_
  · have hm := ho3580
    refine G_region ?_
    refine W_val (.agg #[.slice p3548 x3546.Items.length c3549, .int .i64 x3546.Head, .int .i64 x3546.Tail]) w3563 (by kernel_rfl) (E_load (e := 27) (fr := (0, 0)) _ _ true 3 b3557 0 [.slice p3548 x3546.Items.length c3549, .int .i64 x3546.Head, .int .i64 x3546.Tail] (.agg #[.slice p3548 x3546.Items.length c3549, .int .i64 x3546.Head, .int .i64 x3546.Tail]) rfl (by kernel_rfl) (by kernel_rfl) (by kernel_rfl) (M3564.blk 0 (b := b3557) (o := .cells ⟨[.slice p3548 x3546.Items.length c3549, .int .i64 x3546.Head, .int .i64 x3546.Tail]⟩ 27 (0, 0)) (by kernel_rfl))) ?_
    obtain ⟨r3582, hr3582, hm⟩ := gx_bind hm
    refine W_call 58 #[.agg #[.slice p3548 x3546.Items.length c3549, .int .i64 x3546.Head, .int .i64 x3546.Tail]] (by kernel_rfl) (by kernel_rfl) ?_
    refine (c_s_l20Good w3563 x3546 p3548 c3549 (h3550.mem0 M3564) hr3582).mono ?_
    rintro e_ w3583 ⟨rfl, K3584⟩
    have M3585 := M3564.call0 K3584
    refine ⟨_, rfl, ?_⟩
    refine W_run 2 [(1, .int .i64 x3551), (2, .pointer (some ⟨b3557, 0, none⟩)), (4, .pointer (some ⟨b3562, 0, none⟩)), (12, .bool (!r3582))] w3583 (by kernel_rfl) ?_
    rcases gx_bif hm with ⟨hc3586, hm⟩ | ⟨hc3586, hm⟩
    · refine W_known 12 true (by kernel_rfl) hc3586 ?_
      refine W_run 10 [(1, .int .i64 x3551), (2, .pointer (some ⟨b3557, 0, none⟩)), (4, .pointer (some ⟨b3562, 0, none⟩)), (22, .bool true)] w3583 (by kernel_rfl) ?_
      refine W_nil ?_
      obtain rfl := Option.some.inj hm
      exact N_meet fun a ha => ⟨M3585.pick [0, 1] (by kernel_rfl), ha.sub (by kernel_rfl)⟩
    · refine W_known 12 false (by kernel_rfl) hc3586 ?_
      refine W_run 1 [(1, .int .i64 x3551), (2, .pointer (some ⟨b3557, 0, none⟩)), (4, .pointer (some ⟨b3562, 0, none⟩)), (12, .bool false), (13, .int .i64 x3551)] w3583 (by kernel_rfl) ?_
      obtain ⟨r3587, hr3587, hm⟩ := gx_bind hm
      refine W_call 55 #[.int .i64 x3551] (by kernel_rfl) (by kernel_rfl) ?_
      refine (c_s_l20Places w3583 x3551 hr3587).mono ?_
      rintro e_ w3588 ⟨rfl, K3589⟩
      have M3590 := M3585.call0 K3589
      refine ⟨_, rfl, ?_⟩
      refine W_run 3 [(1, .int .i64 x3551), (2, .pointer (some ⟨b3557, 0, none⟩)), (4, .pointer (some ⟨b3562, 0, none⟩)), (17, .bool (!r3587))] w3588 (by kernel_rfl) ?_
      rcases gx_bif hm with ⟨hc3591, hm⟩ | ⟨hc3591, hm⟩
      · refine W_known 17 true (by kernel_rfl) hc3591 ?_
        refine W_run 5 [(1, .int .i64 x3551), (2, .pointer (some ⟨b3557, 0, none⟩)), (4, .pointer (some ⟨b3562, 0, none⟩)), (22, .bool true)] w3588 (by kernel_rfl) ?_
        refine W_nil ?_
        obtain rfl := Option.some.inj hm
        exact N_meet fun a ha => ⟨M3590.pick [0, 1] (by kernel_rfl), ha.sub (by kernel_rfl)⟩
      · refine W_known 17 false (by kernel_rfl) hc3591 ?_
        refine W_val (.agg #[.slice p3548 x3546.Items.length c3549, .int .i64 x3546.Head, .int .i64 x3546.Tail]) w3588 (by kernel_rfl) (E_load (e := 27) (fr := (0, 0)) _ _ true 3 b3557 0 [.slice p3548 x3546.Items.length c3549, .int .i64 x3546.Head, .int .i64 x3546.Tail] (.agg #[.slice p3548 x3546.Items.length c3549, .int .i64 x3546.Head, .int .i64 x3546.Tail]) rfl (by kernel_rfl) (by kernel_rfl) (by kernel_rfl) (M3590.blk 0 (b := b3557) (o := .cells ⟨[.slice p3548 x3546.Items.length c3549, .int .i64 x3546.Head, .int .i64 x3546.Tail]⟩ 27 (0, 0)) (by kernel_rfl))) ?_
        obtain ⟨r3592, hr3592, hm⟩ := gx_bind hm
        refine W_call 63 #[.agg #[.slice p3548 x3546.Items.length c3549, .int .i64 x3546.Head, .int .i64 x3546.Tail]] (by kernel_rfl) (by kernel_rfl) ?_
        refine (c_s_l20Count w3588 x3546 p3548 c3549 (h3550.mem0 M3590) hr3592).mono ?_
        rintro e_ w3593 ⟨rfl, K3594⟩
        have M3595 := M3590.call0 K3594
        refine ⟨_, rfl, ?_⟩
        refine W_run 3 [(1, .int .i64 x3551), (2, .pointer (some ⟨b3557, 0, none⟩)), (4, .pointer (some ⟨b3562, 0, none⟩)), (22, .bool (decide (r3592 > x3551)))] w3593 (by kernel_rfl) ?_
        refine W_nil ?_
        obtain rfl := Option.some.inj hm
        exact N_meet fun a ha => ⟨M3595.pick [0, 1] (by kernel_rfl), ha.sub (by kernel_rfl)⟩
  · intro a3598 w3596 ⟨M3597, hS3599⟩
    refine N_use hS3599 ?_
    have hm := hm3581
    refine N_then ?_
    rcases gx_bif hm with ⟨hc3600, hm⟩ | ⟨hc3600, hm⟩
    · refine G_cond_t (b := o3579) hc3600 (by kernel_rfl) ?_
      refine G_seq ?_
      refine G_region ?_
      refine W_run 1 [(4, .pointer (some ⟨b3562, 0, none⟩)), (23, .agg #[.slice none 0 0, .int .i64 0, .int .i64 0])] w3596 (by kernel_rfl) ?_
      refine W_store _ _ _ true 3 b3562 0 [.slice none 0 0, .int .i64 0, .int .i64 0] 27 (.agg #[.slice none 0 0, .int .i64 0, .int .i64 0]) 1 [.slice none 0 0, .int .i64 0, .int .i64 0] M3597 (by kernel_rfl) rfl (by kernel_rfl) (by kernel_rfl) (by kernel_rfl) (by kernel_rfl) (by kernel_rfl) (by kernel_rfl) (by kernel_rfl) (by kernel_rfl) ?_
      intro w3602 M3603
      refine W_run 1 [(4, .pointer (some ⟨b3562, 0, none⟩)), (5, .bool false)] w3602 (by kernel_rfl) ?_
      refine W_nil ?_
      refine N_then ?_
      refine G_ret ?_
      refine N_then_ret ?_
      obtain rfl := Option.some.inj hm
      refine N_ret [.agg #[.slice none 0 0, .int .i64 0, .int .i64 0], .bool false] (RVs_cons (RV_cell (g := true) (k := 3) (b := b3562) (off := 0) (cs := [.slice none 0 0, .int .i64 0, .int .i64 0]) (e := 27) (fr := (0, 0)) (v := .agg #[.slice none 0 0, .int .i64 0, .int .i64 0]) (M3603.blk 1 (b := b3562) (o := .cells ⟨[.slice none 0 0, .int .i64 0, .int .i64 0]⟩ 27 (0, 0)) (by kernel_rfl)) (by kernel_rfl) (by kernel_rfl) (by kernel_rfl)) (RVs_cons (RV_tmp (by kernel_rfl)) RVs_nil)) ?_
      exact ⟨none, 0, [], rfl, ownS_nil, M3603.pick [100000] (by kernel_rfl)⟩
    · refine G_cond_f (b := o3579) hc3600 (by kernel_rfl) ?_
      refine G_skip ?_
      refine N_then ?_
      refine G_seq ?_
      obtain ⟨mk3606, hmk3606, hm⟩ := gx_bind hm
      refine G_sub [(1, .int .i64 x3551), (2, .pointer (some ⟨b3557, 0, none⟩)), (4, .pointer (some ⟨b3562, 0, none⟩)), (22, .bool o3579)] (by kernel_rfl) ?_
      refine G_dagL 8 [[], [0], [], [2], [], [4], [3, 5], []] [[], [], [], [], [], [], [], []] [[], [], [], [], [], [], [], []] [[], [], [], [], [], [], [1], []] [[], [], [], [], [], [], [1], []] [[], [], [], [], [], [], [], []] (fun _ => []) (fun i => ([fun f v s => v = (.int .i64 x3551 : Value) ∧ s = [], fun f v s => ∃ (p3608 : Option Addr) (c3609 : Nat), v = (.slice p3608 mk3606.length c3609 : Value) ∧ ownS encI mk3606 p3608 c3609 s, fun f v s => v = (.pointer (some ⟨b3557, 1, none⟩) : Value) ∧ s = [], fun f v s => v = (.int .i64 x3546.Head : Value) ∧ s = [], fun f v s => v = (.pointer (some ⟨b3557, 1, none⟩) : Value) ∧ s = [], fun f v s => v = (.int .i64 x3546.Head : Value) ∧ s = [], fun f v s => v = (.agg #[(atPath (f 1) []), .int .i64 x3546.Head, .int .i64 x3546.Head] : Value) ∧ s = [], fun f v s => ∃ (b3615 : Nat), v = (.pointer (some ⟨b3615, 0, none⟩) : Value) ∧ s = [(b3615, .cells ⟨[.slice none 0 0, .int .i64 0, .int .i64 0]⟩ 27 (0, 0))]] : List ((Nat → Value) → Value → Seg → Prop)).getD i (fun _ _ _ => False)) (fun j f v => ∃ s, (fun i => ([fun f v s => v = (.int .i64 x3551 : Value) ∧ s = [], fun f v s => ∃ (p3608 : Option Addr) (c3609 : Nat), v = (.slice p3608 mk3606.length c3609 : Value) ∧ ownS encI mk3606 p3608 c3609 s, fun f v s => v = (.pointer (some ⟨b3557, 1, none⟩) : Value) ∧ s = [], fun f v s => v = (.int .i64 x3546.Head : Value) ∧ s = [], fun f v s => v = (.pointer (some ⟨b3557, 1, none⟩) : Value) ∧ s = [], fun f v s => v = (.int .i64 x3546.Head : Value) ∧ s = [], fun f v s => v = (.agg #[(atPath (f 1) []), .int .i64 x3546.Head, .int .i64 x3546.Head] : Value) ∧ s = [], fun f v s => ∃ (b3615 : Nat), v = (.pointer (some ⟨b3615, 0, none⟩) : Value) ∧ s = [(b3615, .cells ⟨[.slice none 0 0, .int .i64 0, .int .i64 0]⟩ 27 (0, 0))]] : List ((Nat → Value) → Value → Seg → Prop)).getD i (fun _ _ _ => False)) j f v s) [] [1, 6, 7] [1, 7] (fun _ _ _ s h => ⟨s, h⟩) (by kernel_rfl) (by kernel_rfl) (M3597.preNil 8) (by kernel_rfl) (by kernel_rfl) (by kernel_rfl) (by kernel_rfl) (allOb_cons ?_ (allOb_cons ?_ (allOb_cons ?_ (allOb_cons ?_ (allOb_cons ?_ (allOb_cons ?_ (allOb_cons ?_ (allOb_cons ?_ allOb_nil)))))))) ?_
      · intro g3604 f3605
        intro R w3616 M3617
        refine W_run 1 [(24, .int .i64 x3551)] w3616 (by kernel_rfl) ?_
        exact W_nil (ob_end (.int .i64 x3551) [] rfl (by kernel_rfl) ⟨by kernel_rfl, rfl⟩ M3617)
      · intro g3604 f3605
        intro v0_ hb0_
        obtain ⟨rfl, _⟩ := hb0_
        intro R w3620 M3621
        refine W_make (E := encI) _ _ _ x3551 8 [.int .i64 0] (0 : Int) M3621 (by kernel_rfl) rfl (by kernel_rfl) (by kernel_rfl) (by kernel_rfl) (by kernel_rfl) (by kernel_rfl) hmk3606 ?_
        intro p3608 c3609 sg3610 w3622 ho3611 M3623
        exact W_nil (ob_end (.slice p3608 mk3606.length c3609) sg3610 rfl (by kernel_rfl) ⟨p3608, c3609, rfl, ho3611⟩ (Mem.mid M3623))
      · intro g3604 f3605
        intro R w3624 M3625
        refine W_run 1 [(26, .pointer (some ⟨b3557, 1, none⟩))] w3624 (by kernel_rfl) ?_
        exact W_nil (ob_end (.pointer (some ⟨b3557, 1, none⟩)) [] rfl (by kernel_rfl) ⟨by kernel_rfl, rfl⟩ M3625)
      · intro g3604 f3605
        intro v2_ hb2_
        obtain ⟨rfl, _⟩ := hb2_
        intro R w3628 M3629
        refine W_val (.int .i64 x3546.Head) w3628 (by kernel_rfl) (E_load (e := 27) (fr := (0, 0)) _ _ false 1 b3557 1 [.slice p3548 x3546.Items.length c3549, .int .i64 x3546.Head, .int .i64 x3546.Tail] (.int .i64 x3546.Head) rfl (by kernel_rfl) (by kernel_rfl) (by kernel_rfl) (M3629.blk 0 (b := b3557) (o := .cells ⟨[.slice p3548 x3546.Items.length c3549, .int .i64 x3546.Head, .int .i64 x3546.Tail]⟩ 27 (0, 0)) (by kernel_rfl))) ?_
        exact W_nil (ob_end (.int .i64 x3546.Head) [] rfl (by kernel_rfl) ⟨by kernel_rfl, rfl⟩ M3629)
      · intro g3604 f3605
        intro R w3632 M3633
        refine W_run 1 [(28, .pointer (some ⟨b3557, 1, none⟩))] w3632 (by kernel_rfl) ?_
        exact W_nil (ob_end (.pointer (some ⟨b3557, 1, none⟩)) [] rfl (by kernel_rfl) ⟨by kernel_rfl, rfl⟩ M3633)
      · intro g3604 f3605
        intro v4_ hb4_
        obtain ⟨rfl, _⟩ := hb4_
        intro R w3636 M3637
        refine W_val (.int .i64 x3546.Head) w3636 (by kernel_rfl) (E_load (e := 27) (fr := (0, 0)) _ _ false 1 b3557 1 [.slice p3548 x3546.Items.length c3549, .int .i64 x3546.Head, .int .i64 x3546.Tail] (.int .i64 x3546.Head) rfl (by kernel_rfl) (by kernel_rfl) (by kernel_rfl) (M3637.blk 0 (b := b3557) (o := .cells ⟨[.slice p3548 x3546.Items.length c3549, .int .i64 x3546.Head, .int .i64 x3546.Tail]⟩ 27 (0, 0)) (by kernel_rfl))) ?_
        exact W_nil (ob_end (.int .i64 x3546.Head) [] rfl (by kernel_rfl) ⟨by kernel_rfl, rfl⟩ M3637)
      · intro g3604 f3605
        intro v1_ hb1_
        obtain ⟨_, p3608, c3609, rfl, _⟩ := hb1_
        intro v3_ hb3_
        obtain ⟨rfl, _⟩ := hb3_
        intro v5_ hb5_
        obtain ⟨rfl, _⟩ := hb5_
        intro R w3640 M3641
        refine W_run 1 [(30, .agg #[.slice p3608 mk3606.length c3609, .int .i64 x3546.Head, .int .i64 x3546.Head])] w3640 (by kernel_rfl) ?_
        exact W_nil (ob_end (.agg #[.slice p3608 mk3606.length c3609, .int .i64 x3546.Head, .int .i64 x3546.Head]) [] rfl (by kernel_rfl) ⟨by kernel_rfl, rfl⟩ M3641)
      · intro g3604 f3605
        intro R w3644 M3645
        refine W_new (fun b => .pointer (some ⟨b, 0, none⟩)) (.cells ⟨[.slice none 0 0, .int .i64 0, .int .i64 0]⟩ 27 (0, 0)) M3645 rfl (by kernel_rfl) (by kernel_rfl) ?_
        intro b3615 w3646 M3647
        exact W_nil (ob_end (.pointer (some ⟨b3615, 0, none⟩)) [(b3615, .cells ⟨[.slice none 0 0, .int .i64 0, .int .i64 0]⟩ 27 (0, 0))] rfl (by kernel_rfl) ⟨b3615, rfl, rfl⟩ (Mem.mid M3647))
      · intro g3604 f3605
        intro v1_ hb1_
        obtain ⟨p3608, c3609, rfl, ho3611⟩ := hb1_
        intro v6_ hb6_
        obtain ⟨hv6_, _⟩ := hb6_
        obtain rfl : v6_ = (.agg #[.slice p3608 mk3606.length c3609, .int .i64 x3546.Head, .int .i64 x3546.Head] : Value) := hv6_.trans (by kernel_rfl)
        intro v7_ hb7_
        obtain ⟨b3615, rfl, hs7_⟩ := hb7_
        intro w3648 M3649
        have M3650 : Mem [] w w3648 [[(b3557, .cells ⟨[.slice p3548 x3546.Items.length c3549, .int .i64 x3546.Head, .int .i64 x3546.Tail]⟩ 27 (0, 0))], [(b3562, .cells ⟨[.slice none 0 0, .int .i64 0, .int .i64 0]⟩ 27 (0, 0))], (g3604 1), (g3604 7)] := M3649
        rw [hs7_] at M3650
        refine W_store _ _ _ true 3 b3615 0 [.slice none 0 0, .int .i64 0, .int .i64 0] 27 (.agg #[.slice p3608 mk3606.length c3609, .int .i64 x3546.Head, .int .i64 x3546.Head]) 3 [.slice p3608 mk3606.length c3609, .int .i64 x3546.Head, .int .i64 x3546.Head] M3650 (by kernel_rfl) rfl (by kernel_rfl) (by kernel_rfl) (by kernel_rfl) (by kernel_rfl) (by kernel_rfl) (by kernel_rfl) (by kernel_rfl) (by kernel_rfl) ?_
        intro w3651 M3652
        refine W_nil ?_
        refine N_then ?_
        refine G_seq ?_
        refine G_region ?_
        refine W_val (.agg #[.slice p3548 x3546.Items.length c3549, .int .i64 x3546.Head, .int .i64 x3546.Tail]) w3651 (by kernel_rfl) (E_load (e := 27) (fr := (0, 0)) _ _ true 3 b3557 0 [.slice p3548 x3546.Items.length c3549, .int .i64 x3546.Head, .int .i64 x3546.Tail] (.agg #[.slice p3548 x3546.Items.length c3549, .int .i64 x3546.Head, .int .i64 x3546.Tail]) rfl (by kernel_rfl) (by kernel_rfl) (by kernel_rfl) (M3652.blk 0 (b := b3557) (o := .cells ⟨[.slice p3548 x3546.Items.length c3549, .int .i64 x3546.Head, .int .i64 x3546.Tail]⟩ 27 (0, 0)) (by kernel_rfl))) ?_
        obtain ⟨r3653, hr3653, hm⟩ := gx_bind hm
        refine W_call 60 #[.agg #[.slice p3548 x3546.Items.length c3549, .int .i64 x3546.Head, .int .i64 x3546.Tail]] (by kernel_rfl) (by kernel_rfl) ?_
        refine (c_s_l20Words w3651 x3546 p3548 c3549 (h3550.mem0 M3652) hr3653).mono ?_
        rintro e_ w3659 ⟨p3655, c3656, sg3657, rfl, ho3658, K3660⟩
        have M3661 := M3652.call K3660
        refine ⟨_, rfl, ?_⟩
        refine W_run 1 [(4, .pointer (some ⟨b3562, 0, none⟩)), (6, .pointer (some ⟨b3615, 0, none⟩)), (7, .slice p3655 r3653.length c3656)] w3659 (by kernel_rfl) ?_
        refine W_nil ?_
        refine N_then ?_
        refine G_seq ?_
        refine G_seq ?_
        refine G_region ?_
        refine W_run 1 [(4, .pointer (some ⟨b3562, 0, none⟩)), (6, .pointer (some ⟨b3615, 0, none⟩)), (7, .slice p3655 r3653.length c3656), (8, .int .i64 0)] w3659 (by kernel_rfl) ?_
        refine W_nil ?_
        refine N_then ?_
        obtain ⟨out3918, hw3919, hmo3920⟩ := gx_bind hm
        refine G_meet (fun a w' => ∃ (p3927 : Option Addr), ∃ (c3928 : Nat), ∃ (sg3929 : Seg), ownS encI out3918.1 p3927 c3928 sg3929 ∧ Mem [] w w' [[(b3562, .cells ⟨[.slice none 0 0, .int .i64 0, .int .i64 0]⟩ 27 (0, 0))], [(b3615, .cells ⟨[.slice p3927 out3918.1.length c3928, .int .i64 out3918.2.1, .int .i64 out3918.2.2]⟩ 27 (0, 0))], sg3929] ∧ Sat Try.f34.ntmps [(4, .pointer (some ⟨b3562, 0, none⟩)), (6, .pointer (some ⟨b3615, 0, none⟩))] a) ?_ ?_
        · refine G_block ?_
          refine G_while (σ := Int × List Int × Int × Int) (ρ := List Int × Int × Int) (fun s3911 a w' => ∃ (p3921 : Option Addr), ∃ (c3922 : Nat), ∃ (sg3923 : Seg), ownS encI s3911.2.1 p3921 c3922 sg3923 ∧ Mem [] w w' [[(b3562, .cells ⟨[.slice none 0 0, .int .i64 0, .int .i64 0]⟩ 27 (0, 0))], [(b3615, .cells ⟨[.slice p3921 s3911.2.1.length c3922, .int .i64 s3911.2.2.1, .int .i64 s3911.2.2.2]⟩ 27 (0, 0))], sg3657, sg3923] ∧ Sat Try.f34.ntmps [(4, .pointer (some ⟨b3562, 0, none⟩)), (6, .pointer (some ⟨b3615, 0, none⟩)), (7, .slice p3655 r3653.length c3656), (8, .int .i64 s3911.1)] a) hw3919 (fun a ha => ⟨p3608, c3609, (g3604 1), ho3611, M3661.pick [1, 3, 4, 2] (by kernel_rfl), ha.sub (by kernel_rfl)⟩) ?_
          clear hm
          intro s3911 x3912 hm hout3913 a3914 w3915 ⟨p3921, c3922, sg3923, ho3924, M3916, hS3917⟩
          refine G_use hS3917 ?_
          refine G_seq ?_
          refine G_seq ?_
          refine G_region ?_
          refine W_run 4 [(4, .pointer (some ⟨b3562, 0, none⟩)), (6, .pointer (some ⟨b3615, 0, none⟩)), (7, .slice p3655 r3653.length c3656), (8, .int .i64 s3911.1), (36, .bool (decide (s3911.1 < (r3653.length : Int))))] w3915 (by kernel_rfl) ?_
          refine W_nil ?_
          refine N_then ?_
          rcases gx_bif hm with ⟨hc3932, hm⟩ | ⟨hc3932, hm⟩
          · refine G_cond_t (b := (decide (s3911.1 < (r3653.length : Int)))) hc3932 (by kernel_rfl) ?_
            refine G_skip ?_
            refine N_then ?_
            refine G_seq ?_
            refine G_block ?_
            obtain ⟨y3935, hy3935, hm⟩ := gx_bind hm
            obtain ⟨r3936, hr3936, hm⟩ := gx_bind hm
            have M3942 : Mem [] w w3915 ([[(b3562, .cells ⟨[.slice none 0 0, .int .i64 0, .int .i64 0]⟩ 27 (0, 0))], sg3657, sg3923] ++ (List.range 10).map (fun i => ([[], [], [], [], [], [], [], [], [], [(b3615, .cells ⟨[.slice p3921 s3911.2.1.length c3922, .int .i64 s3911.2.2.1, .int .i64 s3911.2.2.2]⟩ 27 (0, 0))]] : List Seg).getD i [])) := M3916.pick [0, 2, 3, 300000, 300001, 300002, 300003, 300004, 300005, 300006, 300007, 300008, 1] (by kernel_rfl)
            refine G_sub [(4, .pointer (some ⟨b3562, 0, none⟩)), (6, .pointer (some ⟨b3615, 0, none⟩)), (7, .slice p3655 r3653.length c3656), (8, .int .i64 s3911.1), (36, .bool (decide (s3911.1 < (r3653.length : Int))))] (by kernel_rfl) ?_
            refine G_dagL 10 [[], [], [], [1, 2], [3], [0, 4], [], [6], [6], [7]] [[], [], [], [], [], [], [], [], [], []] [[], [], [], [], [], [], [], [], [], []] [[], [], [], [], [], [], [5], [5], [5], [5]] [[], [], [], [], [], [], [5], [5], [], [5]] [[9], [], [], [], [], [], [], [], [], []] (fun i => ([[], [], [], [], [], [], [], [], [], [(b3615, .cells ⟨[.slice p3921 s3911.2.1.length c3922, .int .i64 s3911.2.2.1, .int .i64 s3911.2.2.2]⟩ 27 (0, 0))]] : List Seg).getD i []) (fun i => ([fun f v s => v = (.agg #[.slice p3921 s3911.2.1.length c3922, .int .i64 s3911.2.2.1, .int .i64 s3911.2.2.2] : Value) ∧ s = [], fun f v s => v = (.slice p3655 r3653.length c3656 : Value) ∧ s = [], fun f v s => v = (.int .i64 s3911.1 : Value) ∧ s = [], fun f v s => v = (elemP p3655 (s3911.1.toNat * 1) : Value) ∧ s = [], fun f v s => v = (.int .i64 y3935 : Value) ∧ s = [], fun f v s => ∃ (p3938 : Option Addr) (c3939 : Nat), v = (.tuple #[.agg #[.slice p3938 r3936.1.Items.length c3939, .int .i64 r3936.1.Head, .int .i64 r3936.1.Tail], .bool r3936.2] : Value) ∧ ownS encI r3936.1.Items p3938 c3939 s, fun f v s => v = (.tuple #[.agg #[(atPath (f 5) [0, 0]), .int .i64 r3936.1.Head, .int .i64 r3936.1.Tail], .bool r3936.2] : Value) ∧ s = [], fun f v s => v = (.agg #[(atPath (f 5) [0, 0]), .int .i64 r3936.1.Head, .int .i64 r3936.1.Tail] : Value) ∧ s = [], fun f v s => v = (.bool r3936.2 : Value) ∧ s = [], fun f v s => v = undef ∧ s = [(b3615, .cells ⟨[(atPath (f 5) [0, 0]), .int .i64 r3936.1.Head, .int .i64 r3936.1.Tail]⟩ 27 (0, 0))]] : List ((Nat → Value) → Value → Seg → Prop)).getD i (fun _ _ _ => False)) (fun j f v => ∃ s, (fun i => ([fun f v s => v = (.agg #[.slice p3921 s3911.2.1.length c3922, .int .i64 s3911.2.2.1, .int .i64 s3911.2.2.2] : Value) ∧ s = [], fun f v s => v = (.slice p3655 r3653.length c3656 : Value) ∧ s = [], fun f v s => v = (.int .i64 s3911.1 : Value) ∧ s = [], fun f v s => v = (elemP p3655 (s3911.1.toNat * 1) : Value) ∧ s = [], fun f v s => v = (.int .i64 y3935 : Value) ∧ s = [], fun f v s => ∃ (p3938 : Option Addr) (c3939 : Nat), v = (.tuple #[.agg #[.slice p3938 r3936.1.Items.length c3939, .int .i64 r3936.1.Head, .int .i64 r3936.1.Tail], .bool r3936.2] : Value) ∧ ownS encI r3936.1.Items p3938 c3939 s, fun f v s => v = (.tuple #[.agg #[(atPath (f 5) [0, 0]), .int .i64 r3936.1.Head, .int .i64 r3936.1.Tail], .bool r3936.2] : Value) ∧ s = [], fun f v s => v = (.agg #[(atPath (f 5) [0, 0]), .int .i64 r3936.1.Head, .int .i64 r3936.1.Tail] : Value) ∧ s = [], fun f v s => v = (.bool r3936.2 : Value) ∧ s = [], fun f v s => v = undef ∧ s = [(b3615, .cells ⟨[(atPath (f 5) [0, 0]), .int .i64 r3936.1.Head, .int .i64 r3936.1.Tail]⟩ 27 (0, 0))]] : List ((Nat → Value) → Value → Seg → Prop)).getD i (fun _ _ _ => False)) j f v s) [] [5, 9] [5, 9] (fun _ _ _ s h => ⟨s, h⟩) (by kernel_rfl) (by kernel_rfl) M3942 (by kernel_rfl) (by kernel_rfl) (by kernel_rfl) (by kernel_rfl) (allOb_cons ?_ (allOb_cons ?_ (allOb_cons ?_ (allOb_cons ?_ (allOb_cons ?_ (allOb_cons ?_ (allOb_cons ?_ (allOb_cons ?_ (allOb_cons ?_ (allOb_cons ?_ allOb_nil)))))))))) ?_
            · intro g3933 f3934
              intro R w3943 M3944
              refine W_val (.agg #[.slice p3921 s3911.2.1.length c3922, .int .i64 s3911.2.2.1, .int .i64 s3911.2.2.2]) w3943 (by kernel_rfl) (E_load (e := 27) (fr := (0, 0)) _ _ true 3 b3615 0 [.slice p3921 s3911.2.1.length c3922, .int .i64 s3911.2.2.1, .int .i64 s3911.2.2.2] (.agg #[.slice p3921 s3911.2.1.length c3922, .int .i64 s3911.2.2.1, .int .i64 s3911.2.2.2]) rfl (by kernel_rfl) (by kernel_rfl) (by kernel_rfl) (M3944.blk 4 (b := b3615) (o := .cells ⟨[.slice p3921 s3911.2.1.length c3922, .int .i64 s3911.2.2.1, .int .i64 s3911.2.2.2]⟩ 27 (0, 0)) (by kernel_rfl))) ?_
              exact W_nil (ob_end (.agg #[.slice p3921 s3911.2.1.length c3922, .int .i64 s3911.2.2.1, .int .i64 s3911.2.2.2]) [] rfl (by kernel_rfl) ⟨by kernel_rfl, rfl⟩ M3944)
            · intro g3933 f3934
              intro R w3947 M3948
              refine W_run 1 [(41, .slice p3655 r3653.length c3656)] w3947 (by kernel_rfl) ?_
              exact W_nil (ob_end (.slice p3655 r3653.length c3656) [] rfl (by kernel_rfl) ⟨by kernel_rfl, rfl⟩ M3948)
            · intro g3933 f3934
              intro R w3951 M3952
              refine W_run 1 [(42, .int .i64 s3911.1)] w3951 (by kernel_rfl) ?_
              exact W_nil (ob_end (.int .i64 s3911.1) [] rfl (by kernel_rfl) ⟨by kernel_rfl, rfl⟩ M3952)
            · intro g3933 f3934
              intro v1_ hb1_
              obtain ⟨rfl, _⟩ := hb1_
              intro v2_ hb2_
              obtain ⟨rfl, _⟩ := hb2_
              intro R w3955 M3956
              refine W_val (elemP p3655 (s3911.1.toNat * 1)) w3955 (by kernel_rfl) (E_index (E := encI) _ _ _ r3653.length c3656 .i64 s3911.1 1 (y := y3935) rfl (by kernel_rfl) (by kernel_rfl) (by kernel_rfl) (ho3658.rd M3956 1 (by kernel_rfl)) rfl hy3935) ?_
              exact W_nil (ob_end (elemP p3655 (s3911.1.toNat * 1)) [] rfl (by kernel_rfl) ⟨by kernel_rfl, rfl⟩ M3956)
            · intro g3933 f3934
              intro v3_ hb3_
              obtain ⟨rfl, _⟩ := hb3_
              intro R w3959 M3960
              refine W_val (.int .i64 y3935) w3959 (by kernel_rfl) (E_loadE (E := encI) _ _ false 1 s3911.1 0 (s3911.1.toNat * 1) y3935 (.int .i64 y3935) rfl (by kernel_rfl) (by kernel_rfl) (by kernel_rfl) (ho3658.rd M3960 1 (by kernel_rfl)) hy3935 rfl) ?_
              exact W_nil (ob_end (.int .i64 y3935) [] rfl (by kernel_rfl) ⟨by kernel_rfl, rfl⟩ M3960)
            · intro g3933 f3934
              intro v0_ hb0_
              obtain ⟨rfl, _⟩ := hb0_
              intro v4_ hb4_
              obtain ⟨rfl, _⟩ := hb4_
              intro R w3963 M3964
              refine W_call 67 #[.agg #[.slice p3921 s3911.2.1.length c3922, .int .i64 s3911.2.2.1, .int .i64 s3911.2.2.2], .int .i64 y3935] (by kernel_rfl) (by kernel_rfl) ?_
              refine (c_s_l20Put w3963 (⟨s3911.2.1, s3911.2.2.1, s3911.2.2.2⟩ : Ring) p3921 c3922 (ho3924.rd M3964 2 (by kernel_rfl)) y3935 hr3936).mono ?_
              rintro e_ w3965 ⟨p3938, c3939, sg3940, rfl, ho3941, K3967⟩
              refine ⟨_, rfl, ?_⟩
              exact W_nil (ob_end (.tuple #[.agg #[.slice p3938 r3936.1.Items.length c3939, .int .i64 r3936.1.Head, .int .i64 r3936.1.Tail], .bool r3936.2]) sg3940 rfl (by kernel_rfl) ⟨p3938, c3939, rfl, ho3941⟩ (Mem.callMid M3964 K3967))
            · intro g3933 f3934
              intro v5_ hb5_
              obtain ⟨_, p3938, c3939, rfl, _⟩ := hb5_
              intro R w3968 M3969
              refine W_run 1 [(39, .tuple #[.agg #[.slice p3938 r3936.1.Items.length c3939, .int .i64 r3936.1.Head, .int .i64 r3936.1.Tail], .bool r3936.2])] w3968 (by kernel_rfl) ?_
              exact W_nil (ob_end (.tuple #[.agg #[.slice p3938 r3936.1.Items.length c3939, .int .i64 r3936.1.Head, .int .i64 r3936.1.Tail], .bool r3936.2]) [] rfl (by kernel_rfl) ⟨by kernel_rfl, rfl⟩ M3969)
            · intro g3933 f3934
              intro v5_ hb5_
              obtain ⟨_, p3938, c3939, rfl, _⟩ := hb5_
              intro v6_ hb6_
              obtain ⟨hv6_, _⟩ := hb6_
              obtain rfl : v6_ = (.tuple #[.agg #[.slice p3938 r3936.1.Items.length c3939, .int .i64 r3936.1.Head, .int .i64 r3936.1.Tail], .bool r3936.2] : Value) := hv6_.trans (by kernel_rfl)
              intro R w3972 M3973
              refine W_run 1 [(46, .agg #[.slice p3938 r3936.1.Items.length c3939, .int .i64 r3936.1.Head, .int .i64 r3936.1.Tail])] w3972 (by kernel_rfl) ?_
              exact W_nil (ob_end (.agg #[.slice p3938 r3936.1.Items.length c3939, .int .i64 r3936.1.Head, .int .i64 r3936.1.Tail]) [] rfl (by kernel_rfl) ⟨by kernel_rfl, rfl⟩ M3973)
            · intro g3933 f3934
              intro v5_ hb5_
              obtain ⟨_, p3938, c3939, rfl, _⟩ := hb5_
              intro v6_ hb6_
              obtain ⟨hv6_, _⟩ := hb6_
              obtain rfl : v6_ = (.tuple #[.agg #[.slice p3938 r3936.1.Items.length c3939, .int .i64 r3936.1.Head, .int .i64 r3936.1.Tail], .bool r3936.2] : Value) := hv6_.trans (by kernel_rfl)
              intro R w3976 M3977
              refine W_run 1 [(47, .bool r3936.2)] w3976 (by kernel_rfl) ?_
              exact W_nil (ob_end (.bool r3936.2) [] rfl (by kernel_rfl) ⟨by kernel_rfl, rfl⟩ M3977)
            · intro g3933 f3934
              intro v5_ hb5_
              obtain ⟨_, p3938, c3939, rfl, _⟩ := hb5_
              intro v7_ hb7_
              obtain ⟨hv7_, _⟩ := hb7_
              obtain rfl : v7_ = (.agg #[.slice p3938 r3936.1.Items.length c3939, .int .i64 r3936.1.Head, .int .i64 r3936.1.Tail] : Value) := hv7_.trans (by kernel_rfl)
              intro R w3980 M3981
              refine W_store _ _ _ true 3 b3615 0 [.slice p3921 s3911.2.1.length c3922, .int .i64 s3911.2.2.1, .int .i64 s3911.2.2.2] 27 (.agg #[.slice p3938 r3936.1.Items.length c3939, .int .i64 r3936.1.Head, .int .i64 r3936.1.Tail]) 3 [.slice p3938 r3936.1.Items.length c3939, .int .i64 r3936.1.Head, .int .i64 r3936.1.Tail] M3981 (by kernel_rfl) rfl (by kernel_rfl) (by kernel_rfl) (by kernel_rfl) (by kernel_rfl) (by kernel_rfl) (by kernel_rfl) (by kernel_rfl) (by kernel_rfl) ?_
              intro w3982 M3983
              exact W_nil (ob_none [(b3615, .cells ⟨[.slice p3938 r3936.1.Items.length c3939, .int .i64 r3936.1.Head, .int .i64 r3936.1.Tail]⟩ 27 (0, 0))] rfl ⟨rfl, by kernel_rfl⟩ M3983)
            · intro g3933 f3934
              intro v5_ hb5_
              obtain ⟨p3938, c3939, rfl, ho3941⟩ := hb5_
              intro v9_ hb9_
              obtain ⟨rfl, hs9_⟩ := hb9_
              replace hs9_ := hs9_.trans (show _ = [(b3615, .cells ⟨[.slice p3938 r3936.1.Items.length c3939, .int .i64 r3936.1.Head, .int .i64 r3936.1.Tail]⟩ 27 (0, 0))] by kernel_rfl)
              intro w3984 M3985
              have M3986 : Mem [] w w3984 [[(b3562, .cells ⟨[.slice none 0 0, .int .i64 0, .int .i64 0]⟩ 27 (0, 0))], sg3657, sg3923, (g3933 5), (g3933 9)] := M3985
              rw [hs9_] at M3986
              refine W_nil ?_
              refine N_block ?_
              refine N_then ?_
              refine G_region ?_
              refine W_run 3 [(4, .pointer (some ⟨b3562, 0, none⟩)), (6, .pointer (some ⟨b3615, 0, none⟩)), (7, .slice p3655 r3653.length c3656), (8, .int .i64 (w64 (s3911.1 + 1)))] w3984 (by kernel_rfl) ?_
              refine W_nil ?_
              obtain rfl := Option.some.inj hm
              exact N_loop fun a ha => ⟨_, rfl, p3938, c3939, (g3933 5), ho3941, M3986.pick [0, 4, 1, 3] (by kernel_rfl), ha.sub (by kernel_rfl)⟩
          · refine G_cond_f (b := (decide (s3911.1 < (r3653.length : Int)))) hc3932 (by kernel_rfl) ?_
            refine G_exit ?_
            refine N_then_exit ?_
            refine N_then_exit ?_
            refine N_block_eq ?_
            obtain rfl := Option.some.inj hm
            obtain rfl := hout3913 _ rfl
            exact N_meet fun a ha => ⟨p3921, c3922, sg3923, ho3924, M3916.pick [0, 1, 3] (by kernel_rfl), ha.sub (by kernel_rfl)⟩
        · intro a3987 w3988 ⟨p3927, c3928, sg3929, ho3930, M3989, hS3990⟩
          refine N_use hS3990 ?_
          have hm := hmo3920
          refine N_then ?_
          refine G_seq ?_
          refine G_region ?_
          refine W_val (.agg #[.slice p3927 out3918.1.length c3928, .int .i64 out3918.2.1, .int .i64 out3918.2.2]) w3988 (by kernel_rfl) (E_load (e := 27) (fr := (0, 0)) _ _ true 3 b3615 0 [.slice p3927 out3918.1.length c3928, .int .i64 out3918.2.1, .int .i64 out3918.2.2] (.agg #[.slice p3927 out3918.1.length c3928, .int .i64 out3918.2.1, .int .i64 out3918.2.2]) rfl (by kernel_rfl) (by kernel_rfl) (by kernel_rfl) (M3989.blk 1 (b := b3615) (o := .cells ⟨[.slice p3927 out3918.1.length c3928, .int .i64 out3918.2.1, .int .i64 out3918.2.2]⟩ 27 (0, 0)) (by kernel_rfl))) ?_
          refine W_store _ _ _ true 3 b3562 0 [.slice none 0 0, .int .i64 0, .int .i64 0] 27 (.agg #[.slice p3927 out3918.1.length c3928, .int .i64 out3918.2.1, .int .i64 out3918.2.2]) 0 [.slice p3927 out3918.1.length c3928, .int .i64 out3918.2.1, .int .i64 out3918.2.2] M3989 (by kernel_rfl) rfl (by kernel_rfl) (by kernel_rfl) (by kernel_rfl) (by kernel_rfl) (by kernel_rfl) (by kernel_rfl) (by kernel_rfl) (by kernel_rfl) ?_
          intro w3991 M3992
          refine W_run 1 [(4, .pointer (some ⟨b3562, 0, none⟩)), (5, .bool true)] w3991 (by kernel_rfl) ?_
          refine W_nil ?_
          refine N_then ?_
          refine G_ret ?_
          obtain rfl := Option.some.inj hm
          refine N_ret [.agg #[.slice p3927 out3918.1.length c3928, .int .i64 out3918.2.1, .int .i64 out3918.2.2], .bool true] (RVs_cons (RV_cell (g := true) (k := 3) (b := b3562) (off := 0) (cs := [.slice p3927 out3918.1.length c3928, .int .i64 out3918.2.1, .int .i64 out3918.2.2]) (e := 27) (fr := (0, 0)) (v := .agg #[.slice p3927 out3918.1.length c3928, .int .i64 out3918.2.1, .int .i64 out3918.2.2]) (M3992.blk 0 (b := b3562) (o := .cells ⟨[.slice p3927 out3918.1.length c3928, .int .i64 out3918.2.1, .int .i64 out3918.2.2]⟩ 27 (0, 0)) (by kernel_rfl)) (by kernel_rfl) (by kernel_rfl) (by kernel_rfl)) (RVs_cons (RV_tmp (by kernel_rfl)) RVs_nil)) ?_
          exact ⟨p3927, c3928, sg3929, rfl, ho3930, M3992.pick [2] (by kernel_rfl)⟩
theorem c_i_ResizeRing (w : World) (x4025 : Ring) (p4027 : Option Addr) (c4028 : Nat) (h4029 : rdS encI w x4025.Items p4027 c4028) (x4030 : Int) {r : Ring × Bool} (hm : M.i_ResizeRing x4025 x4030 = some r) :
    Calls Try.prog 35 #[.agg #[.slice p4027 x4025.Items.length c4028, .int .i64 x4025.Head, .int .i64 x4025.Tail], .int .i64 x4030] w fun e w' => ∃ (p4032 : Option Addr) (c4033 : Nat) (sg4034 : Seg), e = .returned (.tuple #[.agg #[.slice p4032 r.1.Items.length c4033, .int .i64 r.1.Head, .int .i64 r.1.Tail], .bool r.2]) ∧ ownS encI r.1.Items p4032 c4033 sg4034 ∧ Mem [] w w' [sg4034] := by
  unfold M.i_ResizeRing at hm
  refine C_enter Try.func35 rfl (by kernel_rfl) ?_
  have M0 := Mem.refl [] w
  refine G_seq ?_
  refine G_region ?_
  refine W_new (fun b => .pointer (some ⟨b, 0, none⟩)) (.cells ⟨[.slice p4027 x4025.Items.length c4028, .int .i64 x4025.Head, .int .i64 x4025.Tail]⟩ 27 (0, 0)) M0 rfl (by kernel_rfl) (by kernel_rfl) ?_
  intro b4036 w4037 M4038
  refine W_new (fun b => .pointer (some ⟨b, 0, none⟩)) (.cells ⟨[.slice none 0 0, .int .i64 0, .int .i64 0]⟩ 27 (0, 0)) M4038 rfl (by kernel_rfl) (by kernel_rfl) ?_
  intro b4041 w4042 M4043
  refine W_run 1 [(1, .int .i64 x4030), (2, .pointer (some ⟨b4036, 0, none⟩)), (4, .pointer (some ⟨b4041, 0, none⟩))] w4042 (by kernel_rfl) ?_
  refine W_nil ?_
  refine N_then ?_
  refine G_seq ?_
  refine G_seq ?_
  obtain ⟨o4058, ho4059, hm4060⟩ := gx_bind hm
  refine G_meet (fun a w' => Mem [] w w' [[(b4036, .cells ⟨[.slice p4027 x4025.Items.length c4028, .int .i64 x4025.Head, .int .i64 x4025.Tail]⟩ 27 (0, 0))], [(b4041, .cells ⟨[.slice none 0 0, .int .i64 0, .int .i64 0]⟩ 27 (0, 0))]] ∧ Sat Try.f35.ntmps [(1, .int .i64 x4030), (2, .pointer (some ⟨b4036, 0, none⟩)), (4, .pointer (some ⟨b4041, 0, none⟩)), (19, .bool o4058)] a) ?_ ?_
  · have hm := ho4059
    refine G_region ?_
    refine W_val (.agg #[.slice p4027 x4025.Items.length c4028, .int .i64 x4025.Head, .int .i64 x4025.Tail]) w4042 (by kernel_rfl) (E_load (e := 27) (fr := (0, 0)) _ _ true 3 b4036 0 [.slice p4027 x4025.Items.length c4028, .int .i64 x4025.Head, .int .i64 x4025.Tail] (.agg #[.slice p4027 x4025.Items.length c4028, .int .i64 x4025.Head, .int .i64 x4025.Tail]) rfl (by kernel_rfl) (by kernel_rfl) (by kernel_rfl) (M4043.blk 0 (b := b4036) (o := .cells ⟨[.slice p4027 x4025.Items.length c4028, .int .i64 x4025.Head, .int .i64 x4025.Tail]⟩ 27 (0, 0)) (by kernel_rfl))) ?_
    obtain ⟨r4061, hr4061, hm⟩ := gx_bind hm
    refine W_call 24 #[.agg #[.slice p4027 x4025.Items.length c4028, .int .i64 x4025.Head, .int .i64 x4025.Tail]] (by kernel_rfl) (by kernel_rfl) ?_
    refine (c_i_IsRing w4042 x4025 p4027 c4028 (h4029.mem0 M4043) hr4061).mono ?_
    rintro e_ w4062 ⟨rfl, K4063⟩
    have M4064 := M4043.call0 K4063
    refine ⟨_, rfl, ?_⟩
    refine W_run 2 [(1, .int .i64 x4030), (2, .pointer (some ⟨b4036, 0, none⟩)), (4, .pointer (some ⟨b4041, 0, none⟩)), (9, .bool (!r4061))] w4062 (by kernel_rfl) ?_
    rcases gx_bif hm with ⟨hc4065, hm⟩ | ⟨hc4065, hm⟩
    · refine W_known 9 true (by kernel_rfl) hc4065 ?_
      refine W_run 10 [(1, .int .i64 x4030), (2, .pointer (some ⟨b4036, 0, none⟩)), (4, .pointer (some ⟨b4041, 0, none⟩)), (19, .bool true)] w4062 (by kernel_rfl) ?_
      refine W_nil ?_
      obtain rfl := Option.some.inj hm
      exact N_meet fun a ha => ⟨M4064.pick [0, 1] (by kernel_rfl), ha.sub (by kernel_rfl)⟩
    · refine W_known 9 false (by kernel_rfl) hc4065 ?_
      refine W_run 1 [(1, .int .i64 x4030), (2, .pointer (some ⟨b4036, 0, none⟩)), (4, .pointer (some ⟨b4041, 0, none⟩)), (9, .bool false), (10, .int .i64 x4030)] w4062 (by kernel_rfl) ?_
      obtain ⟨r4066, hr4066, hm⟩ := gx_bind hm
      refine W_call 56 #[.int .i64 x4030] (by kernel_rfl) (by kernel_rfl) ?_
      refine (c_i_arePlaces w4062 x4030 hr4066).mono ?_
      rintro e_ w4067 ⟨rfl, K4068⟩
      have M4069 := M4064.call0 K4068
      refine ⟨_, rfl, ?_⟩
      refine W_run 3 [(1, .int .i64 x4030), (2, .pointer (some ⟨b4036, 0, none⟩)), (4, .pointer (some ⟨b4041, 0, none⟩)), (14, .bool (!r4066))] w4067 (by kernel_rfl) ?_
      rcases gx_bif hm with ⟨hc4070, hm⟩ | ⟨hc4070, hm⟩
      · refine W_known 14 true (by kernel_rfl) hc4070 ?_
        refine W_run 5 [(1, .int .i64 x4030), (2, .pointer (some ⟨b4036, 0, none⟩)), (4, .pointer (some ⟨b4041, 0, none⟩)), (19, .bool true)] w4067 (by kernel_rfl) ?_
        refine W_nil ?_
        obtain rfl := Option.some.inj hm
        exact N_meet fun a ha => ⟨M4069.pick [0, 1] (by kernel_rfl), ha.sub (by kernel_rfl)⟩
      · refine W_known 14 false (by kernel_rfl) hc4070 ?_
        refine W_val (.agg #[.slice p4027 x4025.Items.length c4028, .int .i64 x4025.Head, .int .i64 x4025.Tail]) w4067 (by kernel_rfl) (E_load (e := 27) (fr := (0, 0)) _ _ true 3 b4036 0 [.slice p4027 x4025.Items.length c4028, .int .i64 x4025.Head, .int .i64 x4025.Tail] (.agg #[.slice p4027 x4025.Items.length c4028, .int .i64 x4025.Head, .int .i64 x4025.Tail]) rfl (by kernel_rfl) (by kernel_rfl) (by kernel_rfl) (M4069.blk 0 (b := b4036) (o := .cells ⟨[.slice p4027 x4025.Items.length c4028, .int .i64 x4025.Head, .int .i64 x4025.Tail]⟩ 27 (0, 0)) (by kernel_rfl))) ?_
        obtain ⟨r4071, hr4071, hm⟩ := gx_bind hm
        refine W_call 59 #[.agg #[.slice p4027 x4025.Items.length c4028, .int .i64 x4025.Head, .int .i64 x4025.Tail]] (by kernel_rfl) (by kernel_rfl) ?_
        refine (c_i_Ring_count w4067 x4025 p4027 c4028 (h4029.mem0 M4069) hr4071).mono ?_
        rintro e_ w4072 ⟨rfl, K4073⟩
        have M4074 := M4069.call0 K4073
        refine ⟨_, rfl, ?_⟩
        refine W_run 3 [(1, .int .i64 x4030), (2, .pointer (some ⟨b4036, 0, none⟩)), (4, .pointer (some ⟨b4041, 0, none⟩)), (19, .bool (decide (r4071 > x4030)))] w4072 (by kernel_rfl) ?_
        refine W_nil ?_
        obtain rfl := Option.some.inj hm
        exact N_meet fun a ha => ⟨M4074.pick [0, 1] (by kernel_rfl), ha.sub (by kernel_rfl)⟩
  · intro a4077 w4075 ⟨M4076, hS4078⟩
    refine N_use hS4078 ?_
    have hm := hm4060
    refine N_then ?_
    rcases gx_bif hm with ⟨hc4079, hm⟩ | ⟨hc4079, hm⟩
    · refine G_cond_t (b := o4058) hc4079 (by kernel_rfl) ?_
      refine G_seq ?_
      refine G_region ?_
      refine W_run 1 [(4, .pointer (some ⟨b4041, 0, none⟩)), (20, .agg #[.slice none 0 0, .int .i64 0, .int .i64 0])] w4075 (by kernel_rfl) ?_
      refine W_store _ _ _ true 3 b4041 0 [.slice none 0 0, .int .i64 0, .int .i64 0] 27 (.agg #[.slice none 0 0, .int .i64 0, .int .i64 0]) 1 [.slice none 0 0, .int .i64 0, .int .i64 0] M4076 (by kernel_rfl) rfl (by kernel_rfl) (by kernel_rfl) (by kernel_rfl) (by kernel_rfl) (by kernel_rfl) (by kernel_rfl) (by kernel_rfl) (by kernel_rfl) ?_
      intro w4081 M4082
      refine W_run 1 [(4, .pointer (some ⟨b4041, 0, none⟩)), (5, .bool false)] w4081 (by kernel_rfl) ?_
      refine W_nil ?_
      refine N_then ?_
      refine G_ret ?_
      refine N_then_ret ?_
      obtain rfl := Option.some.inj hm
      refine N_ret [.agg #[.slice none 0 0, .int .i64 0, .int .i64 0], .bool false] (RVs_cons (RV_cell (g := true) (k := 3) (b := b4041) (off := 0) (cs := [.slice none 0 0, .int .i64 0, .int .i64 0]) (e := 27) (fr := (0, 0)) (v := .agg #[.slice none 0 0, .int .i64 0, .int .i64 0]) (M4082.blk 1 (b := b4041) (o := .cells ⟨[.slice none 0 0, .int .i64 0, .int .i64 0]⟩ 27 (0, 0)) (by kernel_rfl)) (by kernel_rfl) (by kernel_rfl) (by kernel_rfl)) (RVs_cons (RV_tmp (by kernel_rfl)) RVs_nil)) ?_
      exact ⟨none, 0, [], rfl, ownS_nil, M4082.pick [100000] (by kernel_rfl)⟩
    · refine G_cond_f (b := o4058) hc4079 (by kernel_rfl) ?_
      refine G_skip ?_
      refine N_then ?_
      refine G_seq ?_
      obtain ⟨r4085, hr4085, hm⟩ := gx_bind hm
      refine G_sub [(1, .int .i64 x4030), (2, .pointer (some ⟨b4036, 0, none⟩)), (4, .pointer (some ⟨b4041, 0, none⟩)), (19, .bool o4058)] (by kernel_rfl) ?_
      refine G_dagL 5 [[], [], [1], [], [3]] [[], [], [], [], []] [[], [], [], [], []] [[], [], [], [], []] [[], [], [], [], []] [[], [], [], [], []] (fun _ => []) (fun i => ([fun f v s => v = (.int .i64 x4030 : Value) ∧ s = [], fun f v s => v = (.pointer (some ⟨b4036, 1, none⟩) : Value) ∧ s = [], fun f v s => v = (.int .i64 x4025.Head : Value) ∧ s = [], fun f v s => v = (.agg #[.slice p4027 x4025.Items.length c4028, .int .i64 x4025.Head, .int .i64 x4025.Tail] : Value) ∧ s = [], fun f v s => ∃ (p4087 : Option Addr) (c4088 : Nat), v = (.slice p4087 r4085.length c4088 : Value) ∧ ownS encI r4085 p4087 c4088 s] : List ((Nat → Value) → Value → Seg → Prop)).getD i (fun _ _ _ => False)) (fun j f v => ∃ s, (fun i => ([fun f v s => v = (.int .i64 x4030 : Value) ∧ s = [], fun f v s => v = (.pointer (some ⟨b4036, 1, none⟩) : Value) ∧ s = [], fun f v s => v = (.int .i64 x4025.Head : Value) ∧ s = [], fun f v s => v = (.agg #[.slice p4027 x4025.Items.length c4028, .int .i64 x4025.Head, .int .i64 x4025.Tail] : Value) ∧ s = [], fun f v s => ∃ (p4087 : Option Addr) (c4088 : Nat), v = (.slice p4087 r4085.length c4088 : Value) ∧ ownS encI r4085 p4087 c4088 s] : List ((Nat → Value) → Value → Seg → Prop)).getD i (fun _ _ _ => False)) j f v s) [] [0, 2, 4] [4] (fun _ _ _ s h => ⟨s, h⟩) (by kernel_rfl) (by kernel_rfl) (M4076.preNil 5) (by kernel_rfl) (by kernel_rfl) (by kernel_rfl) (by kernel_rfl) (allOb_cons ?_ (allOb_cons ?_ (allOb_cons ?_ (allOb_cons ?_ (allOb_cons ?_ allOb_nil))))) ?_
      · intro g4083 f4084
        intro R w4091 M4092
        refine W_run 1 [(21, .int .i64 x4030)] w4091 (by kernel_rfl) ?_
        exact W_nil (ob_end (.int .i64 x4030) [] rfl (by kernel_rfl) ⟨by kernel_rfl, rfl⟩ M4092)
      · intro g4083 f4084
        intro R w4095 M4096
        refine W_run 1 [(22, .pointer (some ⟨b4036, 1, none⟩))] w4095 (by kernel_rfl) ?_
        exact W_nil (ob_end (.pointer (some ⟨b4036, 1, none⟩)) [] rfl (by kernel_rfl) ⟨by kernel_rfl, rfl⟩ M4096)
      · intro g4083 f4084
        intro v1_ hb1_
        obtain ⟨rfl, _⟩ := hb1_
        intro R w4099 M4100
        refine W_val (.int .i64 x4025.Head) w4099 (by kernel_rfl) (E_load (e := 27) (fr := (0, 0)) _ _ false 1 b4036 1 [.slice p4027 x4025.Items.length c4028, .int .i64 x4025.Head, .int .i64 x4025.Tail] (.int .i64 x4025.Head) rfl (by kernel_rfl) (by kernel_rfl) (by kernel_rfl) (M4100.blk 0 (b := b4036) (o := .cells ⟨[.slice p4027 x4025.Items.length c4028, .int .i64 x4025.Head, .int .i64 x4025.Tail]⟩ 27 (0, 0)) (by kernel_rfl))) ?_
        exact W_nil (ob_end (.int .i64 x4025.Head) [] rfl (by kernel_rfl) ⟨by kernel_rfl, rfl⟩ M4100)
      · intro g4083 f4084
        intro R w4103 M4104
        refine W_val (.agg #[.slice p4027 x4025.Items.length c4028, .int .i64 x4025.Head, .int .i64 x4025.Tail]) w4103 (by kernel_rfl) (E_load (e := 27) (fr := (0, 0)) _ _ true 3 b4036 0 [.slice p4027 x4025.Items.length c4028, .int .i64 x4025.Head, .int .i64 x4025.Tail] (.agg #[.slice p4027 x4025.Items.length c4028, .int .i64 x4025.Head, .int .i64 x4025.Tail]) rfl (by kernel_rfl) (by kernel_rfl) (by kernel_rfl) (M4104.blk 0 (b := b4036) (o := .cells ⟨[.slice p4027 x4025.Items.length c4028, .int .i64 x4025.Head, .int .i64 x4025.Tail]⟩ 27 (0, 0)) (by kernel_rfl))) ?_
        exact W_nil (ob_end (.agg #[.slice p4027 x4025.Items.length c4028, .int .i64 x4025.Head, .int .i64 x4025.Tail]) [] rfl (by kernel_rfl) ⟨by kernel_rfl, rfl⟩ M4104)
      · intro g4083 f4084
        intro v3_ hb3_
        obtain ⟨rfl, _⟩ := hb3_
        intro R w4107 M4108
        refine W_call 61 #[.agg #[.slice p4027 x4025.Items.length c4028, .int .i64 x4025.Head, .int .i64 x4025.Tail]] (by kernel_rfl) (by kernel_rfl) ?_
        refine (c_i_ringWords w4107 x4025 p4027 c4028 (h4029.mem0 M4108) hr4085).mono ?_
        rintro e_ w4109 ⟨p4087, c4088, sg4089, rfl, ho4090, K4111⟩
        refine ⟨_, rfl, ?_⟩
        exact W_nil (ob_end (.slice p4087 r4085.length c4088) sg4089 rfl (by kernel_rfl) ⟨p4087, c4088, rfl, ho4090⟩ (Mem.callMid M4108 K4111))
      · intro g4083 f4084
        intro v0_ hb0_
        obtain ⟨rfl, _⟩ := hb0_
        intro v2_ hb2_
        obtain ⟨rfl, _⟩ := hb2_
        intro v4_ hb4_
        obtain ⟨p4087, c4088, rfl, ho4090⟩ := hb4_
        intro w4112 M4113
        have M4114 : Mem [] w w4112 [[(b4036, .cells ⟨[.slice p4027 x4025.Items.length c4028, .int .i64 x4025.Head, .int .i64 x4025.Tail]⟩ 27 (0, 0))], [(b4041, .cells ⟨[.slice none 0 0, .int .i64 0, .int .i64 0]⟩ 27 (0, 0))], (g4083 4)] := M4113
        obtain ⟨r4115, hr4115, hm⟩ := gx_bind hm
        refine W_call 65 #[.int .i64 x4030, .int .i64 x4025.Head, .slice p4087 r4085.length c4088] (by kernel_rfl) (by kernel_rfl) ?_
        refine (c_i_ringOf w4112 x4030 x4025.Head r4085 p4087 c4088 (ho4090.rd M4114 2 (by kernel_rfl)) hr4115).mono ?_
        rintro e_ w4121 ⟨p4117, c4118, sg4119, rfl, ho4120, K4122⟩
        have M4123 := M4114.call K4122
        refine ⟨_, rfl, ?_⟩
        refine W_store _ _ _ true 3 b4041 0 [.slice none 0 0, .int .i64 0, .int .i64 0] 27 (.agg #[.slice p4117 r4115.Items.length c4118, .int .i64 r4115.Head, .int .i64 r4115.Tail]) 1 [.slice p4117 r4115.Items.length c4118, .int .i64 r4115.Head, .int .i64 r4115.Tail] M4123 (by kernel_rfl) rfl (by kernel_rfl) (by kernel_rfl) (by kernel_rfl) (by kernel_rfl) (by kernel_rfl) (by kernel_rfl) (by kernel_rfl) (by kernel_rfl) ?_
        intro w4124 M4125
        refine W_run 1 [(4, .pointer (some ⟨b4041, 0, none⟩)), (5, .bool true)] w4124 (by kernel_rfl) ?_
        refine W_nil ?_
        refine N_then ?_
        refine G_ret ?_
        obtain rfl := Option.some.inj hm
        refine N_ret [.agg #[.slice p4117 r4115.Items.length c4118, .int .i64 r4115.Head, .int .i64 r4115.Tail], .bool true] (RVs_cons (RV_cell (g := true) (k := 3) (b := b4041) (off := 0) (cs := [.slice p4117 r4115.Items.length c4118, .int .i64 r4115.Head, .int .i64 r4115.Tail]) (e := 27) (fr := (0, 0)) (v := .agg #[.slice p4117 r4115.Items.length c4118, .int .i64 r4115.Head, .int .i64 r4115.Tail]) (M4125.blk 1 (b := b4041) (o := .cells ⟨[.slice p4117 r4115.Items.length c4118, .int .i64 r4115.Head, .int .i64 r4115.Tail]⟩ 27 (0, 0)) (by kernel_rfl)) (by kernel_rfl) (by kernel_rfl) (by kernel_rfl)) (RVs_cons (RV_tmp (by kernel_rfl)) RVs_nil)) ?_
        exact ⟨p4117, c4118, sg4119, rfl, ho4120, M4125.pick [3] (by kernel_rfl)⟩
theorem c_l_FnExactResizeRing (w : World) (x3522 : Ring) (p3524 : Option Addr) (c3525 : Nat) (h3526 : rdS encI w x3522.Items p3524 c3525) (x3527 : Int) {r : Bool} (hm : M.l_FnExactResizeRing x3522 x3527 = some r) :
    Calls Try.prog 9 #[.agg #[.slice p3524 x3522.Items.length c3525, .int .i64 x3522.Head, .int .i64 x3522.Tail], .int .i64 x3527] w fun e w' => e = .returned (.bool r) ∧ Mem [] w w' [] := by
  unfold M.l_FnExactResizeRing at hm
  refine C_enter Try.func9 rfl (by kernel_rfl) ?_
  have M0 := Mem.refl [] w
  refine G_seq ?_
  refine G_region ?_
  refine W_new (fun b => .pointer (some ⟨b, 0, none⟩)) (.cells ⟨[.slice p3524 x3522.Items.length c3525, .int .i64 x3522.Head, .int .i64 x3522.Tail]⟩ 33 (0, 0)) M0 rfl (by kernel_rfl) (by kernel_rfl) ?_
  intro b3529 w3530 M3531
  refine W_run 1 [(1, .int .i64 x3527), (2, .pointer (some ⟨b3529, 0, none⟩))] w3530 (by kernel_rfl) ?_
  refine W_nil ?_
  refine N_then ?_
  refine G_seq ?_
  refine G_region ?_
  refine W_run 1 [(1, .int .i64 x3527), (2, .pointer (some ⟨b3529, 0, none⟩)), (5, .int .i64 1048576)] w3530 (by kernel_rfl) ?_
  refine W_nil ?_
  refine N_then ?_
  refine G_seq ?_
  refine G_region ?_
  refine W_val (.agg #[.slice p3524 x3522.Items.length c3525, .int .i64 x3522.Head, .int .i64 x3522.Tail]) w3530 (by kernel_rfl) (E_load (e := 33) (fr := (0, 0)) _ _ true 3 b3529 0 [.slice p3524 x3522.Items.length c3525, .int .i64 x3522.Head, .int .i64 x3522.Tail] (.agg #[.slice p3524 x3522.Items.length c3525, .int .i64 x3522.Head, .int .i64 x3522.Tail]) rfl (by kernel_rfl) (by kernel_rfl) (by kernel_rfl) (M3531.blk 0 (b := b3529) (o := .cells ⟨[.slice p3524 x3522.Items.length c3525, .int .i64 x3522.Head, .int .i64 x3522.Tail]⟩ 33 (0, 0)) (by kernel_rfl))) ?_
  refine W_run 1 [(1, .int .i64 x3527), (2, .pointer (some ⟨b3529, 0, none⟩)), (5, .int .i64 1048576), (16, .agg #[.slice p3524 x3522.Items.length c3525, .int .i64 x3522.Head, .int .i64 x3522.Tail]), (17, .int .i64 1048576)] w3530 (by kernel_rfl) ?_
  obtain ⟨r3532, hr3532, hm⟩ := gx_bind hm
  refine W_call 21 #[.agg #[.slice p3524 x3522.Items.length c3525, .int .i64 x3522.Head, .int .i64 x3522.Tail], .int .i64 1048576] (by kernel_rfl) (by kernel_rfl) ?_
  refine (c_l_szRing w3530 x3522 p3524 c3525 (h3526.mem0 M3531) 1048576 hr3532).mono ?_
  rintro e_ w3533 ⟨rfl, K3534⟩
  have M3535 := M3531.call0 K3534
  refine ⟨_, rfl, ?_⟩
  refine W_run 1 [(1, .int .i64 x3527), (2, .pointer (some ⟨b3529, 0, none⟩)), (5, .int .i64 r3532)] w3533 (by kernel_rfl) ?_
  refine W_nil ?_
  refine N_then ?_
  refine G_seq ?_
  refine G_seq ?_
  refine G_region ?_
  refine W_run 2 [(1, .int .i64 x3527), (2, .pointer (some ⟨b3529, 0, none⟩)), (20, .bool (decide (r3532 < 0)))] w3533 (by kernel_rfl) ?_
  refine W_nil ?_
  refine N_then ?_
  rcases gx_bif hm with ⟨hc3536, hm⟩ | ⟨hc3536, hm⟩
  · refine G_cond_t (b := (decide (r3532 < 0))) hc3536 (by kernel_rfl) ?_
    refine G_seq ?_
    refine G_region ?_
    refine W_run 1 [(4, .bool true)] w3533 (by kernel_rfl) ?_
    refine W_nil ?_
    refine N_then ?_
    refine G_ret ?_
    refine N_then_ret ?_
    obtain rfl := Option.some.inj hm
    refine N_ret [.bool true] (RVs_cons (RV_tmp (by kernel_rfl)) RVs_nil) ?_
    exact ⟨rfl, M3535.pick [] (by kernel_rfl)⟩
  · refine G_cond_f (b := (decide (r3532 < 0))) hc3536 (by kernel_rfl) ?_
    refine G_skip ?_
    refine N_then ?_
    refine G_seq ?_
    refine G_region ?_
    refine W_val (.agg #[.slice p3524 x3522.Items.length c3525, .int .i64 x3522.Head, .int .i64 x3522.Tail]) w3533 (by kernel_rfl) (E_load (e := 33) (fr := (0, 0)) _ _ true 3 b3529 0 [.slice p3524 x3522.Items.length c3525, .int .i64 x3522.Head, .int .i64 x3522.Tail] (.agg #[.slice p3524 x3522.Items.length c3525, .int .i64 x3522.Head, .int .i64 x3522.Tail]) rfl (by kernel_rfl) (by kernel_rfl) (by kernel_rfl) (M3535.blk 0 (b := b3529) (o := .cells ⟨[.slice p3524 x3522.Items.length c3525, .int .i64 x3522.Head, .int .i64 x3522.Tail]⟩ 33 (0, 0)) (by kernel_rfl))) ?_
    obtain ⟨r3537, hr3537, hm⟩ := gx_bind hm
    refine W_call 23 #[.agg #[.slice p3524 x3522.Items.length c3525, .int .i64 x3522.Head, .int .i64 x3522.Tail]] (by kernel_rfl) (by kernel_rfl) ?_
    refine (c_l_toRing w3533 x3522 p3524 c3525 (h3526.mem0 M3535) hr3537).mono ?_
    rintro e_ w3543 ⟨p3539, c3540, sg3541, rfl, ho3542, K3544⟩
    have M3545 := M3535.call K3544
    refine ⟨_, rfl, ?_⟩
    refine W_run 1 [(1, .int .i64 x3527), (2, .pointer (some ⟨b3529, 0, none⟩)), (23, .agg #[.slice p3539 r3537.Items.length c3540, .int .i64 r3537.Head, .int .i64 r3537.Tail]), (24, .int .i64 x3527)] w3543 (by kernel_rfl) ?_
    obtain ⟨r3993, hr3993, hm⟩ := gx_bind hm
    refine W_call 34 #[.agg #[.slice p3539 r3537.Items.length c3540, .int .i64 r3537.Head, .int .i64 r3537.Tail], .int .i64 x3527] (by kernel_rfl) (by kernel_rfl) ?_
    refine (c_s_ResizeRing w3543 r3537 p3539 c3540 (ho3542.rd M3545 1 (by kernel_rfl)) x3527 hr3993).mono ?_
    rintro e_ w3999 ⟨p3995, c3996, sg3997, rfl, ho3998, K4000⟩
    have M4001 := M3545.call K4000
    refine ⟨_, rfl, ?_⟩
    refine W_run 3 [(1, .int .i64 x3527), (2, .pointer (some ⟨b3529, 0, none⟩)), (26, .agg #[.slice p3995 r3993.1.Items.length c3996, .int .i64 r3993.1.Head, .int .i64 r3993.1.Tail]), (27, .bool r3993.2)] w3999 (by kernel_rfl) ?_
    refine W_new (fun b => .pointer (some ⟨b, 0, none⟩)) (.cells ⟨[.slice none 0 0, .int .i64 0, .int .i64 0]⟩ 27 (0, 0)) M4001 rfl (by kernel_rfl) (by kernel_rfl) ?_
    intro b4004 w4005 M4006
    refine W_store _ _ _ true 3 b4004 0 [.slice none 0 0, .int .i64 0, .int .i64 0] 27 (.agg #[.slice p3995 r3993.1.Items.length c3996, .int .i64 r3993.1.Head, .int .i64 r3993.1.Tail]) 3 [.slice p3995 r3993.1.Items.length c3996, .int .i64 r3993.1.Head, .int .i64 r3993.1.Tail] M4006 (by kernel_rfl) rfl (by kernel_rfl) (by kernel_rfl) (by kernel_rfl) (by kernel_rfl) (by kernel_rfl) (by kernel_rfl) (by kernel_rfl) (by kernel_rfl) ?_
    intro w4007 M4008
    refine W_run 1 [(1, .int .i64 x3527), (2, .pointer (some ⟨b3529, 0, none⟩)), (6, .pointer (some ⟨b4004, 0, none⟩)), (7, .bool r3993.2)] w4007 (by kernel_rfl) ?_
    refine W_nil ?_
    refine N_then ?_
    refine G_seq ?_
    refine G_region ?_
    refine W_val (.agg #[.slice p3524 x3522.Items.length c3525, .int .i64 x3522.Head, .int .i64 x3522.Tail]) w4007 (by kernel_rfl) (E_load (e := 33) (fr := (0, 0)) _ _ true 3 b3529 0 [.slice p3524 x3522.Items.length c3525, .int .i64 x3522.Head, .int .i64 x3522.Tail] (.agg #[.slice p3524 x3522.Items.length c3525, .int .i64 x3522.Head, .int .i64 x3522.Tail]) rfl (by kernel_rfl) (by kernel_rfl) (by kernel_rfl) (M4008.blk 0 (b := b3529) (o := .cells ⟨[.slice p3524 x3522.Items.length c3525, .int .i64 x3522.Head, .int .i64 x3522.Tail]⟩ 33 (0, 0)) (by kernel_rfl))) ?_
    obtain ⟨r4009, hr4009, hm⟩ := gx_bind hm
    refine W_call 23 #[.agg #[.slice p3524 x3522.Items.length c3525, .int .i64 x3522.Head, .int .i64 x3522.Tail]] (by kernel_rfl) (by kernel_rfl) ?_
    refine (c_l_toRing w4007 x3522 p3524 c3525 (h3526.mem0 M4008) hr4009).mono ?_
    rintro e_ w4015 ⟨p4011, c4012, sg4013, rfl, ho4014, K4016⟩
    have M4017 := M4008.call K4016
    refine ⟨_, rfl, ?_⟩
    refine W_new (fun b => .pointer (some ⟨b, 0, none⟩)) (.cells ⟨[.slice none 0 0, .int .i64 0, .int .i64 0]⟩ 27 (0, 0)) M4017 rfl (by kernel_rfl) (by kernel_rfl) ?_
    intro b4020 w4021 M4022
    refine W_store _ _ _ true 3 b4020 0 [.slice none 0 0, .int .i64 0, .int .i64 0] 27 (.agg #[.slice p4011 r4009.Items.length c4012, .int .i64 r4009.Head, .int .i64 r4009.Tail]) 5 [.slice p4011 r4009.Items.length c4012, .int .i64 r4009.Head, .int .i64 r4009.Tail] M4022 (by kernel_rfl) rfl (by kernel_rfl) (by kernel_rfl) (by kernel_rfl) (by kernel_rfl) (by kernel_rfl) (by kernel_rfl) (by kernel_rfl) (by kernel_rfl) ?_
    intro w4023 M4024
    refine W_nil ?_
    refine N_then ?_
    refine G_seq ?_
    refine G_region ?_
    refine W_val (.agg #[.slice p4011 r4009.Items.length c4012, .int .i64 r4009.Head, .int .i64 r4009.Tail]) w4023 (by kernel_rfl) (E_load (e := 27) (fr := (0, 0)) _ _ true 3 b4020 0 [.slice p4011 r4009.Items.length c4012, .int .i64 r4009.Head, .int .i64 r4009.Tail] (.agg #[.slice p4011 r4009.Items.length c4012, .int .i64 r4009.Head, .int .i64 r4009.Tail]) rfl (by kernel_rfl) (by kernel_rfl) (by kernel_rfl) (M4024.blk 5 (b := b4020) (o := .cells ⟨[.slice p4011 r4009.Items.length c4012, .int .i64 r4009.Head, .int .i64 r4009.Tail]⟩ 27 (0, 0)) (by kernel_rfl))) ?_
    refine W_run 1 [(1, .int .i64 x3527), (2, .pointer (some ⟨b3529, 0, none⟩)), (6, .pointer (some ⟨b4004, 0, none⟩)), (7, .bool r3993.2), (8, .pointer (some ⟨b4020, 0, none⟩)), (31, .agg #[.slice p4011 r4009.Items.length c4012, .int .i64 r4009.Head, .int .i64 r4009.Tail]), (32, .int .i64 x3527)] w4023 (by kernel_rfl) ?_
    obtain ⟨r4126, hr4126, hm⟩ := gx_bind hm
    refine W_call 35 #[.agg #[.slice p4011 r4009.Items.length c4012, .int .i64 r4009.Head, .int .i64 r4009.Tail], .int .i64 x3527] (by kernel_rfl) (by kernel_rfl) ?_
    refine (c_i_ResizeRing w4023 r4009 p4011 c4012 (ho4014.rd M4024 4 (by kernel_rfl)) x3527 hr4126).mono ?_
    rintro e_ w4132 ⟨p4128, c4129, sg4130, rfl, ho4131, K4133⟩
    have M4134 := M4024.call K4133
    refine ⟨_, rfl, ?_⟩
    refine W_run 3 [(1, .int .i64 x3527), (2, .pointer (some ⟨b3529, 0, none⟩)), (6, .pointer (some ⟨b4004, 0, none⟩)), (7, .bool r3993.2), (8, .pointer (some ⟨b4020, 0, none⟩)), (34, .agg #[.slice p4128 r4126.1.Items.length c4129, .int .i64 r4126.1.Head, .int .i64 r4126.1.Tail]), (35, .bool r4126.2)] w4132 (by kernel_rfl) ?_
    refine W_new (fun b => .pointer (some ⟨b, 0, none⟩)) (.cells ⟨[.slice none 0 0, .int .i64 0, .int .i64 0]⟩ 27 (0, 0)) M4134 rfl (by kernel_rfl) (by kernel_rfl) ?_
    intro b4137 w4138 M4139
    refine W_store _ _ _ true 3 b4137 0 [.slice none 0 0, .int .i64 0, .int .i64 0] 27 (.agg #[.slice p4128 r4126.1.Items.length c4129, .int .i64 r4126.1.Head, .int .i64 r4126.1.Tail]) 7 [.slice p4128 r4126.1.Items.length c4129, .int .i64 r4126.1.Head, .int .i64 r4126.1.Tail] M4139 (by kernel_rfl) rfl (by kernel_rfl) (by kernel_rfl) (by kernel_rfl) (by kernel_rfl) (by kernel_rfl) (by kernel_rfl) (by kernel_rfl) (by kernel_rfl) ?_
    intro w4140 M4141
    refine W_run 1 [(1, .int .i64 x3527), (2, .pointer (some ⟨b3529, 0, none⟩)), (6, .pointer (some ⟨b4004, 0, none⟩)), (7, .bool r3993.2), (8, .pointer (some ⟨b4020, 0, none⟩)), (9, .pointer (some ⟨b4137, 0, none⟩)), (10, .bool r4126.2)] w4140 (by kernel_rfl) ?_
    refine W_nil ?_
    refine N_then ?_
    refine G_seq ?_
    refine G_seq ?_
    obtain ⟨o4147, ho4148, hm4149⟩ := gx_bind hm
    refine G_meet (fun a w' => Mem [] w w' [[(b3529, .cells ⟨[.slice p3524 x3522.Items.length c3525, .int .i64 x3522.Head, .int .i64 x3522.Tail]⟩ 33 (0, 0))], sg3997, [(b4004, .cells ⟨[.slice p3995 r3993.1.Items.length c3996, .int .i64 r3993.1.Head, .int .i64 r3993.1.Tail]⟩ 27 (0, 0))], sg4013, [(b4020, .cells ⟨[.slice p4011 r4009.Items.length c4012, .int .i64 r4009.Head, .int .i64 r4009.Tail]⟩ 27 (0, 0))], sg4130, [(b4137, .cells ⟨[.slice p4128 r4126.1.Items.length c4129, .int .i64 r4126.1.Head, .int .i64 r4126.1.Tail]⟩ 27 (0, 0))]] ∧ Sat Try.f9.ntmps [(1, .int .i64 x3527), (2, .pointer (some ⟨b3529, 0, none⟩)), (6, .pointer (some ⟨b4004, 0, none⟩)), (7, .bool r3993.2), (8, .pointer (some ⟨b4020, 0, none⟩)), (9, .pointer (some ⟨b4137, 0, none⟩)), (10, .bool r4126.2), (44, .bool o4147)] a) ?_ ?_
    · have hm := ho4148
      refine G_region ?_
      refine W_val (.agg #[.slice p4128 r4126.1.Items.length c4129, .int .i64 r4126.1.Head, .int .i64 r4126.1.Tail]) w4140 (by kernel_rfl) (E_load (e := 27) (fr := (0, 0)) _ _ true 3 b4137 0 [.slice p4128 r4126.1.Items.length c4129, .int .i64 r4126.1.Head, .int .i64 r4126.1.Tail] (.agg #[.slice p4128 r4126.1.Items.length c4129, .int .i64 r4126.1.Head, .int .i64 r4126.1.Tail]) rfl (by kernel_rfl) (by kernel_rfl) (by kernel_rfl) (M4141.blk 7 (b := b4137) (o := .cells ⟨[.slice p4128 r4126.1.Items.length c4129, .int .i64 r4126.1.Head, .int .i64 r4126.1.Tail]⟩ 27 (0, 0)) (by kernel_rfl))) ?_
      refine W_val (.agg #[.slice p3995 r3993.1.Items.length c3996, .int .i64 r3993.1.Head, .int .i64 r3993.1.Tail]) w4140 (by kernel_rfl) (E_load (e := 27) (fr := (0, 0)) _ _ true 3 b4004 0 [.slice p3995 r3993.1.Items.length c3996, .int .i64 r3993.1.Head, .int .i64 r3993.1.Tail] (.agg #[.slice p3995 r3993.1.Items.length c3996, .int .i64 r3993.1.Head, .int .i64 r3993.1.Tail]) rfl (by kernel_rfl) (by kernel_rfl) (by kernel_rfl) (M4141.blk 3 (b := b4004) (o := .cells ⟨[.slice p3995 r3993.1.Items.length c3996, .int .i64 r3993.1.Head, .int .i64 r3993.1.Tail]⟩ 27 (0, 0)) (by kernel_rfl))) ?_
      obtain ⟨r4150, hr4150, hm⟩ := gx_bind hm
      refine W_call 18 #[.agg #[.slice p4128 r4126.1.Items.length c4129, .int .i64 r4126.1.Head, .int .i64 r4126.1.Tail], .agg #[.slice p3995 r3993.1.Items.length c3996, .int .i64 r3993.1.Head, .int .i64 r3993.1.Tail]] (by kernel_rfl) (by kernel_rfl) ?_
      refine (c_l_eqRing w4140 r4126.1 p4128 c4129 (ho4131.rd M4141 6 (by kernel_rfl)) r3993.1 p3995 c3996 (ho3998.rd M4141 2 (by kernel_rfl)) hr4150).mono ?_
      rintro e_ w4151 ⟨rfl, K4152⟩
      have M4153 := M4141.call0 K4152
      refine ⟨_, rfl, ?_⟩
      refine W_run 2 [(1, .int .i64 x3527), (2, .pointer (some ⟨b3529, 0, none⟩)), (6, .pointer (some ⟨b4004, 0, none⟩)), (7, .bool r3993.2), (8, .pointer (some ⟨b4020, 0, none⟩)), (9, .pointer (some ⟨b4137, 0, none⟩)), (10, .bool r4126.2), (40, .bool (!r4150))] w4151 (by kernel_rfl) ?_
      rcases gx_bif hm with ⟨hc4154, hm⟩ | ⟨hc4154, hm⟩
      · refine W_known 40 true (by kernel_rfl) hc4154 ?_
        refine W_run 4 [(1, .int .i64 x3527), (2, .pointer (some ⟨b3529, 0, none⟩)), (6, .pointer (some ⟨b4004, 0, none⟩)), (7, .bool r3993.2), (8, .pointer (some ⟨b4020, 0, none⟩)), (9, .pointer (some ⟨b4137, 0, none⟩)), (10, .bool r4126.2), (44, .bool true)] w4151 (by kernel_rfl) ?_
        refine W_nil ?_
        obtain rfl := Option.some.inj hm
        exact N_meet fun a ha => ⟨M4153.pick [0, 2, 3, 4, 5, 6, 7] (by kernel_rfl), ha.sub (by kernel_rfl)⟩
      · refine W_known 40 false (by kernel_rfl) hc4154 ?_
        refine W_run 4 [(1, .int .i64 x3527), (2, .pointer (some ⟨b3529, 0, none⟩)), (6, .pointer (some ⟨b4004, 0, none⟩)), (7, .bool r3993.2), (8, .pointer (some ⟨b4020, 0, none⟩)), (9, .pointer (some ⟨b4137, 0, none⟩)), (10, .bool r4126.2), (44, .bool (!(r4126.2 == r3993.2)))] w4151 (by kernel_rfl) ?_
        refine W_nil ?_
        obtain rfl := Option.some.inj hm
        exact N_meet fun a ha => ⟨M4153.pick [0, 2, 3, 4, 5, 6, 7] (by kernel_rfl), ha.sub (by kernel_rfl)⟩
    · intro a4157 w4155 ⟨M4156, hS4158⟩
      refine N_use hS4158 ?_
      have hm := hm4149
      refine N_then ?_
      rcases gx_bif hm with ⟨hc4159, hm⟩ | ⟨hc4159, hm⟩
      · refine G_cond_t (b := o4147) hc4159 (by kernel_rfl) ?_
        refine G_seq ?_
        refine G_region ?_
        refine W_run 1 [(4, .bool false)] w4155 (by kernel_rfl) ?_
        refine W_nil ?_
        refine N_then ?_
        refine G_ret ?_
        refine N_then_ret ?_
        obtain rfl := Option.some.inj hm
        refine N_ret [.bool false] (RVs_cons (RV_tmp (by kernel_rfl)) RVs_nil) ?_
        exact ⟨rfl, M4156.pick [] (by kernel_rfl)⟩
      · refine G_cond_f (b := o4147) hc4159 (by kernel_rfl) ?_
        refine G_skip ?_
        refine N_then ?_
        refine G_seq ?_
        refine G_seq ?_
        obtain ⟨r4162, hr4162, hm⟩ := gx_bind hm
        refine G_sub [(1, .int .i64 x3527), (2, .pointer (some ⟨b3529, 0, none⟩)), (6, .pointer (some ⟨b4004, 0, none⟩)), (7, .bool r3993.2), (8, .pointer (some ⟨b4020, 0, none⟩)), (9, .pointer (some ⟨b4137, 0, none⟩)), (10, .bool r4126.2), (44, .bool o4147)] (by kernel_rfl) ?_
        refine G_dagL 3 [[], [], [1]] [[], [], []] [[], [], []] [[], [], []] [[], [], []] [[], [], []] (fun _ => []) (fun i => ([fun f v s => v = (.agg #[.slice p4011 r4009.Items.length c4012, .int .i64 r4009.Head, .int .i64 r4009.Tail] : Value) ∧ s = [], fun f v s => v = (.agg #[.slice p3524 x3522.Items.length c3525, .int .i64 x3522.Head, .int .i64 x3522.Tail] : Value) ∧ s = [], fun f v s => ∃ (p4164 : Option Addr) (c4165 : Nat), v = (.agg #[.slice p4164 r4162.Items.length c4165, .int .i64 r4162.Head, .int .i64 r4162.Tail] : Value) ∧ ownS encI r4162.Items p4164 c4165 s] : List ((Nat → Value) → Value → Seg → Prop)).getD i (fun _ _ _ => False)) (fun j f v => ∃ s, (fun i => ([fun f v s => v = (.agg #[.slice p4011 r4009.Items.length c4012, .int .i64 r4009.Head, .int .i64 r4009.Tail] : Value) ∧ s = [], fun f v s => v = (.agg #[.slice p3524 x3522.Items.length c3525, .int .i64 x3522.Head, .int .i64 x3522.Tail] : Value) ∧ s = [], fun f v s => ∃ (p4164 : Option Addr) (c4165 : Nat), v = (.agg #[.slice p4164 r4162.Items.length c4165, .int .i64 r4162.Head, .int .i64 r4162.Tail] : Value) ∧ ownS encI r4162.Items p4164 c4165 s] : List ((Nat → Value) → Value → Seg → Prop)).getD i (fun _ _ _ => False)) j f v s) [] [0, 2] [2] (fun _ _ _ s h => ⟨s, h⟩) (by kernel_rfl) (by kernel_rfl) (M4156.preNil 3) (by kernel_rfl) (by kernel_rfl) (by kernel_rfl) (by kernel_rfl) (allOb_cons ?_ (allOb_cons ?_ (allOb_cons ?_ allOb_nil))) ?_
        · intro g4160 f4161
          intro R w4168 M4169
          refine W_val (.agg #[.slice p4011 r4009.Items.length c4012, .int .i64 r4009.Head, .int .i64 r4009.Tail]) w4168 (by kernel_rfl) (E_load (e := 27) (fr := (0, 0)) _ _ true 3 b4020 0 [.slice p4011 r4009.Items.length c4012, .int .i64 r4009.Head, .int .i64 r4009.Tail] (.agg #[.slice p4011 r4009.Items.length c4012, .int .i64 r4009.Head, .int .i64 r4009.Tail]) rfl (by kernel_rfl) (by kernel_rfl) (by kernel_rfl) (M4169.blk 4 (b := b4020) (o := .cells ⟨[.slice p4011 r4009.Items.length c4012, .int .i64 r4009.Head, .int .i64 r4009.Tail]⟩ 27 (0, 0)) (by kernel_rfl))) ?_
          exact W_nil (ob_end (.agg #[.slice p4011 r4009.Items.length c4012, .int .i64 r4009.Head, .int .i64 r4009.Tail]) [] rfl (by kernel_rfl) ⟨by kernel_rfl, rfl⟩ M4169)
        · intro g4160 f4161
          intro R w4172 M4173
          refine W_val (.agg #[.slice p3524 x3522.Items.length c3525, .int .i64 x3522.Head, .int .i64 x3522.Tail]) w4172 (by kernel_rfl) (E_load (e := 33) (fr := (0, 0)) _ _ true 3 b3529 0 [.slice p3524 x3522.Items.length c3525, .int .i64 x3522.Head, .int .i64 x3522.Tail] (.agg #[.slice p3524 x3522.Items.length c3525, .int .i64 x3522.Head, .int .i64 x3522.Tail]) rfl (by kernel_rfl) (by kernel_rfl) (by kernel_rfl) (M4173.blk 0 (b := b3529) (o := .cells ⟨[.slice p3524 x3522.Items.length c3525, .int .i64 x3522.Head, .int .i64 x3522.Tail]⟩ 33 (0, 0)) (by kernel_rfl))) ?_
          exact W_nil (ob_end (.agg #[.slice p3524 x3522.Items.length c3525, .int .i64 x3522.Head, .int .i64 x3522.Tail]) [] rfl (by kernel_rfl) ⟨by kernel_rfl, rfl⟩ M4173)
        · intro g4160 f4161
          intro v1_ hb1_
          obtain ⟨rfl, _⟩ := hb1_
          intro R w4176 M4177
          refine W_call 23 #[.agg #[.slice p3524 x3522.Items.length c3525, .int .i64 x3522.Head, .int .i64 x3522.Tail]] (by kernel_rfl) (by kernel_rfl) ?_
          refine (c_l_toRing w4176 x3522 p3524 c3525 (h3526.mem0 M4177) hr4162).mono ?_
          rintro e_ w4178 ⟨p4164, c4165, sg4166, rfl, ho4167, K4180⟩
          refine ⟨_, rfl, ?_⟩
          exact W_nil (ob_end (.agg #[.slice p4164 r4162.Items.length c4165, .int .i64 r4162.Head, .int .i64 r4162.Tail]) sg4166 rfl (by kernel_rfl) ⟨p4164, c4165, rfl, ho4167⟩ (Mem.callMid M4177 K4180))
        · intro g4160 f4161
          intro v0_ hb0_
          obtain ⟨rfl, _⟩ := hb0_
          intro v2_ hb2_
          obtain ⟨p4164, c4165, rfl, ho4167⟩ := hb2_
          intro w4181 M4182
          have M4183 : Mem [] w w4181 [[(b3529, .cells ⟨[.slice p3524 x3522.Items.length c3525, .int .i64 x3522.Head, .int .i64 x3522.Tail]⟩ 33 (0, 0))], sg3997, [(b4004, .cells ⟨[.slice p3995 r3993.1.Items.length c3996, .int .i64 r3993.1.Head, .int .i64 r3993.1.Tail]⟩ 27 (0, 0))], sg4013, [(b4020, .cells ⟨[.slice p4011 r4009.Items.length c4012, .int .i64 r4009.Head, .int .i64 r4009.Tail]⟩ 27 (0, 0))], sg4130, [(b4137, .cells ⟨[.slice p4128 r4126.1.Items.length c4129, .int .i64 r4126.1.Head, .int .i64 r4126.1.Tail]⟩ 27 (0, 0))], (g4160 2)] := M4182
          obtain ⟨r4184, hr4184, hm⟩ := gx_bind hm
          refine W_call 18 #[.agg #[.slice p4011 r4009.Items.length c4012, .int .i64 r4009.Head, .int .i64 r4009.Tail], .agg #[.slice p4164 r4162.Items.length c4165, .int .i64 r4162.Head, .int .i64 r4162.Tail]] (by kernel_rfl) (by kernel_rfl) ?_
          refine (c_l_eqRing w4181 r4009 p4011 c4012 (ho4014.rd M4183 3 (by kernel_rfl)) r4162 p4164 c4165 (ho4167.rd M4183 7 (by kernel_rfl)) hr4184).mono ?_
          rintro e_ w4185 ⟨rfl, K4186⟩
          have M4187 := M4183.call0 K4186
          refine ⟨_, rfl, ?_⟩
          refine W_run 1 [(1, .int .i64 x3527), (2, .pointer (some ⟨b3529, 0, none⟩)), (6, .pointer (some ⟨b4004, 0, none⟩)), (7, .bool r3993.2), (8, .pointer (some ⟨b4020, 0, none⟩)), (9, .pointer (some ⟨b4137, 0, none⟩)), (10, .bool r4126.2), (49, .bool (!r4184))] w4185 (by kernel_rfl) ?_
          refine W_nil ?_
          refine N_then ?_
          rcases gx_bif hm with ⟨hc4188, hm⟩ | ⟨hc4188, hm⟩
          · refine G_cond_t (b := (!r4184)) hc4188 (by kernel_rfl) ?_
            refine G_seq ?_
            refine G_region ?_
            refine W_run 1 [(4, .bool false)] w4185 (by kernel_rfl) ?_
            refine W_nil ?_
            refine N_then ?_
            refine G_ret ?_
            refine N_then_ret ?_
            obtain rfl := Option.some.inj hm
            refine N_ret [.bool false] (RVs_cons (RV_tmp (by kernel_rfl)) RVs_nil) ?_
            exact ⟨rfl, M4187.pick [] (by kernel_rfl)⟩
          · refine G_cond_f (b := (!r4184)) hc4188 (by kernel_rfl) ?_
            refine G_skip ?_
            refine N_then ?_
            refine G_seq ?_
            refine G_region ?_
            refine W_run 1 [(1, .int .i64 x3527), (2, .pointer (some ⟨b3529, 0, none⟩)), (6, .pointer (some ⟨b4004, 0, none⟩)), (7, .bool r3993.2), (8, .pointer (some ⟨b4020, 0, none⟩)), (9, .pointer (some ⟨b4137, 0, none⟩)), (10, .bool r4126.2), (11, .int .i64 1)] w4185 (by kernel_rfl) ?_
            refine W_nil ?_
            refine N_then ?_
            refine G_seq ?_
            refine G_region ?_
            refine W_val (.agg #[.slice p4011 r4009.Items.length c4012, .int .i64 r4009.Head, .int .i64 r4009.Tail]) w4185 (by kernel_rfl) (E_load (e := 27) (fr := (0, 0)) _ _ true 3 b4020 0 [.slice p4011 r4009.Items.length c4012, .int .i64 r4009.Head, .int .i64 r4009.Tail] (.agg #[.slice p4011 r4009.Items.length c4012, .int .i64 r4009.Head, .int .i64 r4009.Tail]) rfl (by kernel_rfl) (by kernel_rfl) (by kernel_rfl) (M4187.blk 4 (b := b4020) (o := .cells ⟨[.slice p4011 r4009.Items.length c4012, .int .i64 r4009.Head, .int .i64 r4009.Tail]⟩ 27 (0, 0)) (by kernel_rfl))) ?_
            refine W_run 1 [(1, .int .i64 x3527), (2, .pointer (some ⟨b3529, 0, none⟩)), (6, .pointer (some ⟨b4004, 0, none⟩)), (7, .bool r3993.2), (9, .pointer (some ⟨b4137, 0, none⟩)), (10, .bool r4126.2), (11, .int .i64 1), (50, .agg #[.slice p4011 r4009.Items.length c4012, .int .i64 r4009.Head, .int .i64 r4009.Tail]), (51, .int .i64 1)] w4185 (by kernel_rfl) ?_
            obtain ⟨r4189, hr4189, hm⟩ := gx_bind hm
            refine W_call 19 #[.agg #[.slice p4011 r4009.Items.length c4012, .int .i64 r4009.Head, .int .i64 r4009.Tail], .int .i64 1] (by kernel_rfl) (by kernel_rfl) ?_
            refine (c_l_markRing w4185 r4009 p4011 c4012 sg4013 ho4014 1 (M4187.hasPick [3]) (M4187.nodupPick [3] (by kernel_rfl)) hr4189).mono ?_
            rintro e_ w4193 ⟨sg4190, rfl, ho4191, hl4192, K4194⟩
            have M4195 := M4187.callF' [3] [0, 1, 2, 4, 5, 6, 7] (by kernel_rfl) K4194
            refine ⟨_, rfl, ?_⟩
            refine W_conv 50 (.agg #[.slice p4011 r4009.Items.length c4012, .int .i64 r4009.Head, .int .i64 r4009.Tail]) (.agg #[.slice p4011 r4189.2.length c4012, .int .i64 r4009.Head, .int .i64 r4009.Tail]) (by kernel_rfl) (by first | rw [hl4192] | rw [hl4192]) ?_
            have M4196 : Mem [] w w4193 [[(b3529, .cells ⟨[.slice p3524 x3522.Items.length c3525, .int .i64 x3522.Head, .int .i64 x3522.Tail]⟩ 33 (0, 0))], sg3997, [(b4004, .cells ⟨[.slice p3995 r3993.1.Items.length c3996, .int .i64 r3993.1.Head, .int .i64 r3993.1.Tail]⟩ 27 (0, 0))], [(b4020, .cells ⟨[.slice p4011 r4189.2.length c4012, .int .i64 r4009.Head, .int .i64 r4009.Tail]⟩ 27 (0, 0))], sg4130, [(b4137, .cells ⟨[.slice p4128 r4126.1.Items.length c4129, .int .i64 r4126.1.Head, .int .i64 r4126.1.Tail]⟩ 27 (0, 0))], (g4160 2), sg4190] := by rw [hl4192]; exact M4195
            refine W_run 1 [(1, .int .i64 x3527), (2, .pointer (some ⟨b3529, 0, none⟩)), (6, .pointer (some ⟨b4004, 0, none⟩)), (7, .bool r3993.2), (9, .pointer (some ⟨b4137, 0, none⟩)), (10, .bool r4126.2), (11, .int .i64 r4189.1)] w4193 (by kernel_rfl) ?_
            refine W_nil ?_
            refine N_then ?_
            refine G_seq ?_
            refine G_seq ?_
            obtain ⟨o4203, ho4204, hm4205⟩ := gx_bind hm
            refine G_meet (fun a w' => Mem [] w w' [[(b3529, .cells ⟨[.slice p3524 x3522.Items.length c3525, .int .i64 x3522.Head, .int .i64 x3522.Tail]⟩ 33 (0, 0))], sg3997, [(b4004, .cells ⟨[.slice p3995 r3993.1.Items.length c3996, .int .i64 r3993.1.Head, .int .i64 r3993.1.Tail]⟩ 27 (0, 0))], sg4130, [(b4137, .cells ⟨[.slice p4128 r4126.1.Items.length c4129, .int .i64 r4126.1.Head, .int .i64 r4126.1.Tail]⟩ 27 (0, 0))]] ∧ Sat Try.f9.ntmps [(1, .int .i64 x3527), (2, .pointer (some ⟨b3529, 0, none⟩)), (6, .pointer (some ⟨b4004, 0, none⟩)), (7, .bool r3993.2), (9, .pointer (some ⟨b4137, 0, none⟩)), (65, .bool o4203)] a) ?_ ?_
            · have hm := ho4204
              refine G_region ?_
              refine W_run 3 [(1, .int .i64 x3527), (2, .pointer (some ⟨b3529, 0, none⟩)), (6, .pointer (some ⟨b4004, 0, none⟩)), (7, .bool r3993.2), (9, .pointer (some ⟨b4137, 0, none⟩)), (10, .bool r4126.2), (55, .bool (decide (r4189.1 < 0)))] w4193 (by kernel_rfl) ?_
              rcases gx_bif hm with ⟨hc4206, hm⟩ | ⟨hc4206, hm⟩
              · refine W_known 55 true (by kernel_rfl) hc4206 ?_
                refine W_run 10 [(1, .int .i64 x3527), (2, .pointer (some ⟨b3529, 0, none⟩)), (6, .pointer (some ⟨b4004, 0, none⟩)), (7, .bool r3993.2), (9, .pointer (some ⟨b4137, 0, none⟩)), (65, .bool true)] w4193 (by kernel_rfl) ?_
                refine W_nil ?_
                obtain rfl := Option.some.inj hm
                exact N_meet fun a ha => ⟨M4196.pick [0, 1, 2, 4, 5] (by kernel_rfl), ha.sub (by kernel_rfl)⟩
              · refine W_known 55 false (by kernel_rfl) hc4206 ?_
                refine W_val (.agg #[.slice p4128 r4126.1.Items.length c4129, .int .i64 r4126.1.Head, .int .i64 r4126.1.Tail]) w4193 (by kernel_rfl) (E_load (e := 27) (fr := (0, 0)) _ _ true 3 b4137 0 [.slice p4128 r4126.1.Items.length c4129, .int .i64 r4126.1.Head, .int .i64 r4126.1.Tail] (.agg #[.slice p4128 r4126.1.Items.length c4129, .int .i64 r4126.1.Head, .int .i64 r4126.1.Tail]) rfl (by kernel_rfl) (by kernel_rfl) (by kernel_rfl) (M4196.blk 5 (b := b4137) (o := .cells ⟨[.slice p4128 r4126.1.Items.length c4129, .int .i64 r4126.1.Head, .int .i64 r4126.1.Tail]⟩ 27 (0, 0)) (by kernel_rfl))) ?_
                refine W_val (.agg #[.slice p3995 r3993.1.Items.length c3996, .int .i64 r3993.1.Head, .int .i64 r3993.1.Tail]) w4193 (by kernel_rfl) (E_load (e := 27) (fr := (0, 0)) _ _ true 3 b4004 0 [.slice p3995 r3993.1.Items.length c3996, .int .i64 r3993.1.Head, .int .i64 r3993.1.Tail] (.agg #[.slice p3995 r3993.1.Items.length c3996, .int .i64 r3993.1.Head, .int .i64 r3993.1.Tail]) rfl (by kernel_rfl) (by kernel_rfl) (by kernel_rfl) (M4196.blk 2 (b := b4004) (o := .cells ⟨[.slice p3995 r3993.1.Items.length c3996, .int .i64 r3993.1.Head, .int .i64 r3993.1.Tail]⟩ 27 (0, 0)) (by kernel_rfl))) ?_
                obtain ⟨r4207, hr4207, hm⟩ := gx_bind hm
                refine W_call 18 #[.agg #[.slice p4128 r4126.1.Items.length c4129, .int .i64 r4126.1.Head, .int .i64 r4126.1.Tail], .agg #[.slice p3995 r3993.1.Items.length c3996, .int .i64 r3993.1.Head, .int .i64 r3993.1.Tail]] (by kernel_rfl) (by kernel_rfl) ?_
                refine (c_l_eqRing w4193 r4126.1 p4128 c4129 (ho4131.rd M4196 4 (by kernel_rfl)) r3993.1 p3995 c3996 (ho3998.rd M4196 1 (by kernel_rfl)) hr4207).mono ?_
                rintro e_ w4208 ⟨rfl, K4209⟩
                have M4210 := M4196.call0 K4209
                refine ⟨_, rfl, ?_⟩
                refine W_run 3 [(1, .int .i64 x3527), (2, .pointer (some ⟨b3529, 0, none⟩)), (6, .pointer (some ⟨b4004, 0, none⟩)), (7, .bool r3993.2), (9, .pointer (some ⟨b4137, 0, none⟩)), (10, .bool r4126.2), (61, .bool (!r4207))] w4208 (by kernel_rfl) ?_
                rcases gx_bif hm with ⟨hc4211, hm⟩ | ⟨hc4211, hm⟩
                · refine W_known 61 true (by kernel_rfl) hc4211 ?_
                  refine W_run 4 [(1, .int .i64 x3527), (2, .pointer (some ⟨b3529, 0, none⟩)), (6, .pointer (some ⟨b4004, 0, none⟩)), (7, .bool r3993.2), (9, .pointer (some ⟨b4137, 0, none⟩)), (65, .bool true)] w4208 (by kernel_rfl) ?_
                  refine W_nil ?_
                  obtain rfl := Option.some.inj hm
                  exact N_meet fun a ha => ⟨M4210.pick [0, 1, 2, 4, 5] (by kernel_rfl), ha.sub (by kernel_rfl)⟩
                · refine W_known 61 false (by kernel_rfl) hc4211 ?_
                  refine W_run 4 [(1, .int .i64 x3527), (2, .pointer (some ⟨b3529, 0, none⟩)), (6, .pointer (some ⟨b4004, 0, none⟩)), (7, .bool r3993.2), (9, .pointer (some ⟨b4137, 0, none⟩)), (65, .bool (!(r4126.2 == r3993.2)))] w4208 (by kernel_rfl) ?_
                  refine W_nil ?_
                  obtain rfl := Option.some.inj hm
                  exact N_meet fun a ha => ⟨M4210.pick [0, 1, 2, 4, 5] (by kernel_rfl), ha.sub (by kernel_rfl)⟩
            · intro a4214 w4212 ⟨M4213, hS4215⟩
              refine N_use hS4215 ?_
              have hm := hm4205
              refine N_then ?_
              rcases gx_bif hm with ⟨hc4216, hm⟩ | ⟨hc4216, hm⟩
              · refine G_cond_t (b := o4203) hc4216 (by kernel_rfl) ?_
                refine G_seq ?_
                refine G_region ?_
                refine W_run 1 [(4, .bool false)] w4212 (by kernel_rfl) ?_
                refine W_nil ?_
                refine N_then ?_
                refine G_ret ?_
                refine N_then_ret ?_
                obtain rfl := Option.some.inj hm
                refine N_ret [.bool false] (RVs_cons (RV_tmp (by kernel_rfl)) RVs_nil) ?_
                exact ⟨rfl, M4213.pick [] (by kernel_rfl)⟩
              · refine G_cond_f (b := o4203) hc4216 (by kernel_rfl) ?_
                refine G_skip ?_
                refine N_then ?_
                refine G_seq ?_
                refine G_region ?_
                refine W_run 1 [(1, .int .i64 x3527), (2, .pointer (some ⟨b3529, 0, none⟩)), (6, .pointer (some ⟨b4004, 0, none⟩)), (7, .bool r3993.2), (9, .pointer (some ⟨b4137, 0, none⟩)), (12, .int .i64 1)] w4212 (by kernel_rfl) ?_
                refine W_nil ?_
                refine N_then ?_
                refine G_seq ?_
                refine G_region ?_
                refine W_val (.agg #[.slice p4128 r4126.1.Items.length c4129, .int .i64 r4126.1.Head, .int .i64 r4126.1.Tail]) w4212 (by kernel_rfl) (E_load (e := 27) (fr := (0, 0)) _ _ true 3 b4137 0 [.slice p4128 r4126.1.Items.length c4129, .int .i64 r4126.1.Head, .int .i64 r4126.1.Tail] (.agg #[.slice p4128 r4126.1.Items.length c4129, .int .i64 r4126.1.Head, .int .i64 r4126.1.Tail]) rfl (by kernel_rfl) (by kernel_rfl) (by kernel_rfl) (M4213.blk 4 (b := b4137) (o := .cells ⟨[.slice p4128 r4126.1.Items.length c4129, .int .i64 r4126.1.Head, .int .i64 r4126.1.Tail]⟩ 27 (0, 0)) (by kernel_rfl))) ?_
                refine W_run 1 [(1, .int .i64 x3527), (2, .pointer (some ⟨b3529, 0, none⟩)), (6, .pointer (some ⟨b4004, 0, none⟩)), (7, .bool r3993.2), (9, .pointer (some ⟨b4137, 0, none⟩)), (12, .int .i64 1), (66, .agg #[.slice p4128 r4126.1.Items.length c4129, .int .i64 r4126.1.Head, .int .i64 r4126.1.Tail]), (67, .int .i64 1)] w4212 (by kernel_rfl) ?_
                obtain ⟨r4217, hr4217, hm⟩ := gx_bind hm
                refine W_call 19 #[.agg #[.slice p4128 r4126.1.Items.length c4129, .int .i64 r4126.1.Head, .int .i64 r4126.1.Tail], .int .i64 1] (by kernel_rfl) (by kernel_rfl) ?_
                refine (c_l_markRing w4212 r4126.1 p4128 c4129 sg4130 ho4131 1 (M4213.hasPick [3]) (M4213.nodupPick [3] (by kernel_rfl)) hr4217).mono ?_
                rintro e_ w4221 ⟨sg4218, rfl, ho4219, hl4220, K4222⟩
                have M4223 := M4213.callF' [3] [0, 1, 2, 4] (by kernel_rfl) K4222
                refine ⟨_, rfl, ?_⟩
                refine W_conv 66 (.agg #[.slice p4128 r4126.1.Items.length c4129, .int .i64 r4126.1.Head, .int .i64 r4126.1.Tail]) (.agg #[.slice p4128 r4217.2.length c4129, .int .i64 r4126.1.Head, .int .i64 r4126.1.Tail]) (by kernel_rfl) (by first | rw [hl4220] | rw [hl4220]) ?_
                have M4224 : Mem [] w w4221 [[(b3529, .cells ⟨[.slice p3524 x3522.Items.length c3525, .int .i64 x3522.Head, .int .i64 x3522.Tail]⟩ 33 (0, 0))], sg3997, [(b4004, .cells ⟨[.slice p3995 r3993.1.Items.length c3996, .int .i64 r3993.1.Head, .int .i64 r3993.1.Tail]⟩ 27 (0, 0))], [(b4137, .cells ⟨[.slice p4128 r4217.2.length c4129, .int .i64 r4126.1.Head, .int .i64 r4126.1.Tail]⟩ 27 (0, 0))], sg4218] := by rw [hl4220]; exact M4223
                refine W_run 1 [(1, .int .i64 x3527), (2, .pointer (some ⟨b3529, 0, none⟩)), (6, .pointer (some ⟨b4004, 0, none⟩)), (7, .bool r3993.2), (9, .pointer (some ⟨b4137, 0, none⟩)), (12, .int .i64 r4217.1)] w4221 (by kernel_rfl) ?_
                refine W_nil ?_
                refine N_then ?_
                refine G_seq ?_
                refine G_region ?_
                refine W_run 1 [(1, .int .i64 x3527), (2, .pointer (some ⟨b3529, 0, none⟩)), (6, .pointer (some ⟨b4004, 0, none⟩)), (7, .bool r3993.2), (9, .pointer (some ⟨b4137, 0, none⟩)), (12, .int .i64 r4217.1), (13, .int .i64 1)] w4221 (by kernel_rfl) ?_
                refine W_nil ?_
                refine N_then ?_
                refine G_seq ?_
                refine G_region ?_
                refine W_val (.agg #[.slice p4128 r4217.2.length c4129, .int .i64 r4126.1.Head, .int .i64 r4126.1.Tail]) w4221 (by kernel_rfl) (E_load (e := 27) (fr := (0, 0)) _ _ true 3 b4137 0 [.slice p4128 r4217.2.length c4129, .int .i64 r4126.1.Head, .int .i64 r4126.1.Tail] (.agg #[.slice p4128 r4217.2.length c4129, .int .i64 r4126.1.Head, .int .i64 r4126.1.Tail]) rfl (by kernel_rfl) (by kernel_rfl) (by kernel_rfl) (M4224.blk 3 (b := b4137) (o := .cells ⟨[.slice p4128 r4217.2.length c4129, .int .i64 r4126.1.Head, .int .i64 r4126.1.Tail]⟩ 27 (0, 0)) (by kernel_rfl))) ?_
                refine W_run 1 [(1, .int .i64 x3527), (2, .pointer (some ⟨b3529, 0, none⟩)), (6, .pointer (some ⟨b4004, 0, none⟩)), (7, .bool r3993.2), (9, .pointer (some ⟨b4137, 0, none⟩)), (12, .int .i64 r4217.1), (13, .int .i64 1), (69, .agg #[.slice p4128 r4217.2.length c4129, .int .i64 r4126.1.Head, .int .i64 r4126.1.Tail]), (70, .int .i64 1)] w4221 (by kernel_rfl) ?_
                obtain ⟨r4225, hr4225, hm⟩ := gx_bind hm
                refine W_call 20 #[.agg #[.slice p4128 r4217.2.length c4129, .int .i64 r4126.1.Head, .int .i64 r4126.1.Tail], .int .i64 1] (by kernel_rfl) (by kernel_rfl) ?_
                refine (c_l_heldRing w4221 (⟨r4217.2, r4126.1.Head, r4126.1.Tail⟩ : Ring) p4128 c4129 (ho4219.rd M4224 4 (by kernel_rfl)) 1 hr4225).mono ?_
                rintro e_ w4226 ⟨rfl, K4227⟩
                have M4228 := M4224.call0 K4227
                refine ⟨_, rfl, ?_⟩
                refine W_run 1 [(1, .int .i64 x3527), (2, .pointer (some ⟨b3529, 0, none⟩)), (6, .pointer (some ⟨b4004, 0, none⟩)), (7, .bool r3993.2), (9, .pointer (some ⟨b4137, 0, none⟩)), (12, .int .i64 r4217.1), (13, .int .i64 r4225)] w4226 (by kernel_rfl) ?_
                refine W_nil ?_
                refine N_then ?_
                refine G_seq ?_
                refine G_seq ?_
                refine G_region ?_
                refine W_run 2 [(1, .int .i64 x3527), (2, .pointer (some ⟨b3529, 0, none⟩)), (6, .pointer (some ⟨b4004, 0, none⟩)), (7, .bool r3993.2), (9, .pointer (some ⟨b4137, 0, none⟩)), (12, .int .i64 r4217.1), (13, .int .i64 r4225), (73, .bool (decide (r4225 < 0)))] w4226 (by kernel_rfl) ?_
                refine W_nil ?_
                refine N_then ?_
                rcases gx_bif hm with ⟨hc4229, hm⟩ | ⟨hc4229, hm⟩
                · refine G_cond_t (b := (decide (r4225 < 0))) hc4229 (by kernel_rfl) ?_
                  refine G_seq ?_
                  refine G_region ?_
                  refine W_run 1 [(4, .bool false)] w4226 (by kernel_rfl) ?_
                  refine W_nil ?_
                  refine N_then ?_
                  refine G_ret ?_
                  refine N_then_ret ?_
                  obtain rfl := Option.some.inj hm
                  refine N_ret [.bool false] (RVs_cons (RV_tmp (by kernel_rfl)) RVs_nil) ?_
                  exact ⟨rfl, M4228.pick [] (by kernel_rfl)⟩
                · refine G_cond_f (b := (decide (r4225 < 0))) hc4229 (by kernel_rfl) ?_
                  refine G_skip ?_
                  refine N_then ?_
                  refine G_seq ?_
                  refine G_seq ?_
                  refine G_region ?_
                  refine W_run 3 [(1, .int .i64 x3527), (2, .pointer (some ⟨b3529, 0, none⟩)), (6, .pointer (some ⟨b4004, 0, none⟩)), (7, .bool r3993.2), (9, .pointer (some ⟨b4137, 0, none⟩)), (12, .int .i64 r4217.1), (76, .bool (r4225 != r4217.1))] w4226 (by kernel_rfl) ?_
                  refine W_nil ?_
                  refine N_then ?_
                  rcases gx_bif hm with ⟨hc4230, hm⟩ | ⟨hc4230, hm⟩
                  · refine G_cond_t (b := (r4225 != r4217.1)) hc4230 (by kernel_rfl) ?_
                    refine G_seq ?_
                    refine G_region ?_
                    refine W_run 1 [(4, .bool false)] w4226 (by kernel_rfl) ?_
                    refine W_nil ?_
                    refine N_then ?_
                    refine G_ret ?_
                    refine N_then_ret ?_
                    obtain rfl := Option.some.inj hm
                    refine N_ret [.bool false] (RVs_cons (RV_tmp (by kernel_rfl)) RVs_nil) ?_
                    exact ⟨rfl, M4228.pick [] (by kernel_rfl)⟩
                  · refine G_cond_f (b := (r4225 != r4217.1)) hc4230 (by kernel_rfl) ?_
                    refine G_skip ?_
                    refine N_then ?_
                    refine G_seq ?_
                    refine G_region ?_
                    refine W_val (.agg #[.slice p3524 x3522.Items.length c3525, .int .i64 x3522.Head, .int .i64 x3522.Tail]) w4226 (by kernel_rfl) (E_load (e := 33) (fr := (0, 0)) _ _ true 3 b3529 0 [.slice p3524 x3522.Items.length c3525, .int .i64 x3522.Head, .int .i64 x3522.Tail] (.agg #[.slice p3524 x3522.Items.length c3525, .int .i64 x3522.Head, .int .i64 x3522.Tail]) rfl (by kernel_rfl) (by kernel_rfl) (by kernel_rfl) (M4228.blk 0 (b := b3529) (o := .cells ⟨[.slice p3524 x3522.Items.length c3525, .int .i64 x3522.Head, .int .i64 x3522.Tail]⟩ 33 (0, 0)) (by kernel_rfl))) ?_
                    obtain ⟨r4231, hr4231, hm⟩ := gx_bind hm
                    refine W_call 23 #[.agg #[.slice p3524 x3522.Items.length c3525, .int .i64 x3522.Head, .int .i64 x3522.Tail]] (by kernel_rfl) (by kernel_rfl) ?_
                    refine (c_l_toRing w4226 x3522 p3524 c3525 (h3526.mem0 M4228) hr4231).mono ?_
                    rintro e_ w4237 ⟨p4233, c4234, sg4235, rfl, ho4236, K4238⟩
                    have M4239 := M4228.call K4238
                    refine ⟨_, rfl, ?_⟩
                    refine W_run 1 [(6, .pointer (some ⟨b4004, 0, none⟩)), (7, .bool r3993.2), (9, .pointer (some ⟨b4137, 0, none⟩)), (12, .int .i64 r4217.1), (79, .agg #[.slice p4233 r4231.Items.length c4234, .int .i64 r4231.Head, .int .i64 r4231.Tail]), (80, .int .i64 x3527)] w4237 (by kernel_rfl) ?_
                    obtain ⟨r4240, hr4240, hm⟩ := gx_bind hm
                    refine W_call 35 #[.agg #[.slice p4233 r4231.Items.length c4234, .int .i64 r4231.Head, .int .i64 r4231.Tail], .int .i64 x3527] (by kernel_rfl) (by kernel_rfl) ?_
                    refine (c_i_ResizeRing w4237 r4231 p4233 c4234 (ho4236.rd M4239 5 (by kernel_rfl)) x3527 hr4240).mono ?_
                    rintro e_ w4246 ⟨p4242, c4243, sg4244, rfl, ho4245, K4247⟩
                    have M4248 := M4239.call K4247
                    refine ⟨_, rfl, ?_⟩
                    refine W_run 3 [(6, .pointer (some ⟨b4004, 0, none⟩)), (7, .bool r3993.2), (9, .pointer (some ⟨b4137, 0, none⟩)), (12, .int .i64 r4217.1), (82, .agg #[.slice p4242 r4240.1.Items.length c4243, .int .i64 r4240.1.Head, .int .i64 r4240.1.Tail]), (83, .bool r4240.2)] w4246 (by kernel_rfl) ?_
                    refine W_new (fun b => .pointer (some ⟨b, 0, none⟩)) (.cells ⟨[.slice none 0 0, .int .i64 0, .int .i64 0]⟩ 27 (0, 0)) M4248 rfl (by kernel_rfl) (by kernel_rfl) ?_
                    intro b4251 w4252 M4253
                    refine W_store _ _ _ true 3 b4251 0 [.slice none 0 0, .int .i64 0, .int .i64 0] 27 (.agg #[.slice p4242 r4240.1.Items.length c4243, .int .i64 r4240.1.Head, .int .i64 r4240.1.Tail]) 7 [.slice p4242 r4240.1.Items.length c4243, .int .i64 r4240.1.Head, .int .i64 r4240.1.Tail] M4253 (by kernel_rfl) rfl (by kernel_rfl) (by kernel_rfl) (by kernel_rfl) (by kernel_rfl) (by kernel_rfl) (by kernel_rfl) (by kernel_rfl) (by kernel_rfl) ?_
                    intro w4254 M4255
                    refine W_run 1 [(6, .pointer (some ⟨b4004, 0, none⟩)), (7, .bool r3993.2), (9, .pointer (some ⟨b4137, 0, none⟩)), (12, .int .i64 r4217.1), (14, .pointer (some ⟨b4251, 0, none⟩)), (15, .bool r4240.2)] w4254 (by kernel_rfl) ?_
                    refine W_nil ?_
                    refine N_then ?_
                    refine G_seq ?_
                    refine G_seq ?_
                    obtain ⟨o4261, ho4262, hm4263⟩ := gx_bind hm
                    refine G_meet (fun a w' => Mem [] w w' [[(b4137, .cells ⟨[.slice p4128 r4217.2.length c4129, .int .i64 r4126.1.Head, .int .i64 r4126.1.Tail]⟩ 27 (0, 0))], sg4218] ∧ Sat Try.f9.ntmps [(9, .pointer (some ⟨b4137, 0, none⟩)), (12, .int .i64 r4217.1), (92, .bool o4261)] a) ?_ ?_
                    · have hm := ho4262
                      refine G_region ?_
                      refine W_val (.agg #[.slice p4242 r4240.1.Items.length c4243, .int .i64 r4240.1.Head, .int .i64 r4240.1.Tail]) w4254 (by kernel_rfl) (E_load (e := 27) (fr := (0, 0)) _ _ true 3 b4251 0 [.slice p4242 r4240.1.Items.length c4243, .int .i64 r4240.1.Head, .int .i64 r4240.1.Tail] (.agg #[.slice p4242 r4240.1.Items.length c4243, .int .i64 r4240.1.Head, .int .i64 r4240.1.Tail]) rfl (by kernel_rfl) (by kernel_rfl) (by kernel_rfl) (M4255.blk 7 (b := b4251) (o := .cells ⟨[.slice p4242 r4240.1.Items.length c4243, .int .i64 r4240.1.Head, .int .i64 r4240.1.Tail]⟩ 27 (0, 0)) (by kernel_rfl))) ?_
                      refine W_val (.agg #[.slice p3995 r3993.1.Items.length c3996, .int .i64 r3993.1.Head, .int .i64 r3993.1.Tail]) w4254 (by kernel_rfl) (E_load (e := 27) (fr := (0, 0)) _ _ true 3 b4004 0 [.slice p3995 r3993.1.Items.length c3996, .int .i64 r3993.1.Head, .int .i64 r3993.1.Tail] (.agg #[.slice p3995 r3993.1.Items.length c3996, .int .i64 r3993.1.Head, .int .i64 r3993.1.Tail]) rfl (by kernel_rfl) (by kernel_rfl) (by kernel_rfl) (M4255.blk 2 (b := b4004) (o := .cells ⟨[.slice p3995 r3993.1.Items.length c3996, .int .i64 r3993.1.Head, .int .i64 r3993.1.Tail]⟩ 27 (0, 0)) (by kernel_rfl))) ?_
                      obtain ⟨r4264, hr4264, hm⟩ := gx_bind hm
                      refine W_call 18 #[.agg #[.slice p4242 r4240.1.Items.length c4243, .int .i64 r4240.1.Head, .int .i64 r4240.1.Tail], .agg #[.slice p3995 r3993.1.Items.length c3996, .int .i64 r3993.1.Head, .int .i64 r3993.1.Tail]] (by kernel_rfl) (by kernel_rfl) ?_
                      refine (c_l_eqRing w4254 r4240.1 p4242 c4243 (ho4245.rd M4255 6 (by kernel_rfl)) r3993.1 p3995 c3996 (ho3998.rd M4255 1 (by kernel_rfl)) hr4264).mono ?_
                      rintro e_ w4265 ⟨rfl, K4266⟩
                      have M4267 := M4255.call0 K4266
                      refine ⟨_, rfl, ?_⟩
                      refine W_run 2 [(7, .bool r3993.2), (9, .pointer (some ⟨b4137, 0, none⟩)), (12, .int .i64 r4217.1), (15, .bool r4240.2), (88, .bool (!r4264))] w4265 (by kernel_rfl) ?_
                      rcases gx_bif hm with ⟨hc4268, hm⟩ | ⟨hc4268, hm⟩
                      · refine W_known 88 true (by kernel_rfl) hc4268 ?_
                        refine W_run 4 [(9, .pointer (some ⟨b4137, 0, none⟩)), (12, .int .i64 r4217.1), (92, .bool true)] w4265 (by kernel_rfl) ?_
                        refine W_nil ?_
                        obtain rfl := Option.some.inj hm
                        exact N_meet fun a ha => ⟨M4267.pick [3, 4] (by kernel_rfl), ha.sub (by kernel_rfl)⟩
                      · refine W_known 88 false (by kernel_rfl) hc4268 ?_
                        refine W_run 4 [(9, .pointer (some ⟨b4137, 0, none⟩)), (12, .int .i64 r4217.1), (92, .bool (!(r4240.2 == r3993.2)))] w4265 (by kernel_rfl) ?_
                        refine W_nil ?_
                        obtain rfl := Option.some.inj hm
                        exact N_meet fun a ha => ⟨M4267.pick [3, 4] (by kernel_rfl), ha.sub (by kernel_rfl)⟩
                    · intro a4271 w4269 ⟨M4270, hS4272⟩
                      refine N_use hS4272 ?_
                      have hm := hm4263
                      refine N_then ?_
                      rcases gx_bif hm with ⟨hc4273, hm⟩ | ⟨hc4273, hm⟩
                      · refine G_cond_t (b := o4261) hc4273 (by kernel_rfl) ?_
                        refine G_seq ?_
                        refine G_region ?_
                        refine W_run 1 [(4, .bool false)] w4269 (by kernel_rfl) ?_
                        refine W_nil ?_
                        refine N_then ?_
                        refine G_ret ?_
                        refine N_then_ret ?_
                        obtain rfl := Option.some.inj hm
                        refine N_ret [.bool false] (RVs_cons (RV_tmp (by kernel_rfl)) RVs_nil) ?_
                        exact ⟨rfl, M4270.pick [] (by kernel_rfl)⟩
                      · refine G_cond_f (b := o4261) hc4273 (by kernel_rfl) ?_
                        refine G_skip ?_
                        refine N_then ?_
                        refine G_seq ?_
                        refine G_region ?_
                        refine W_run 1 [(9, .pointer (some ⟨b4137, 0, none⟩)), (12, .int .i64 r4217.1), (13, .int .i64 1)] w4269 (by kernel_rfl) ?_
                        refine W_nil ?_
                        refine N_then ?_
                        refine G_seq ?_
                        refine G_region ?_
                        refine W_val (.agg #[.slice p4128 r4217.2.length c4129, .int .i64 r4126.1.Head, .int .i64 r4126.1.Tail]) w4269 (by kernel_rfl) (E_load (e := 27) (fr := (0, 0)) _ _ true 3 b4137 0 [.slice p4128 r4217.2.length c4129, .int .i64 r4126.1.Head, .int .i64 r4126.1.Tail] (.agg #[.slice p4128 r4217.2.length c4129, .int .i64 r4126.1.Head, .int .i64 r4126.1.Tail]) rfl (by kernel_rfl) (by kernel_rfl) (by kernel_rfl) (M4270.blk 0 (b := b4137) (o := .cells ⟨[.slice p4128 r4217.2.length c4129, .int .i64 r4126.1.Head, .int .i64 r4126.1.Tail]⟩ 27 (0, 0)) (by kernel_rfl))) ?_
                        refine W_run 1 [(12, .int .i64 r4217.1), (13, .int .i64 1), (93, .agg #[.slice p4128 r4217.2.length c4129, .int .i64 r4126.1.Head, .int .i64 r4126.1.Tail]), (94, .int .i64 1)] w4269 (by kernel_rfl) ?_
                        obtain ⟨r4274, hr4274, hm⟩ := gx_bind hm
                        refine W_call 20 #[.agg #[.slice p4128 r4217.2.length c4129, .int .i64 r4126.1.Head, .int .i64 r4126.1.Tail], .int .i64 1] (by kernel_rfl) (by kernel_rfl) ?_
                        refine (c_l_heldRing w4269 (⟨r4217.2, r4126.1.Head, r4126.1.Tail⟩ : Ring) p4128 c4129 (ho4219.rd M4270 1 (by kernel_rfl)) 1 hr4274).mono ?_
                        rintro e_ w4275 ⟨rfl, K4276⟩
                        have M4277 := M4270.call0 K4276
                        refine ⟨_, rfl, ?_⟩
                        refine W_run 1 [(12, .int .i64 r4217.1), (13, .int .i64 r4274)] w4275 (by kernel_rfl) ?_
                        refine W_nil ?_
                        refine N_then ?_
                        refine G_seq ?_
                        refine G_seq ?_
                        refine G_region ?_
                        refine W_run 2 [(12, .int .i64 r4217.1), (13, .int .i64 r4274), (97, .bool (decide (r4274 < 0)))] w4275 (by kernel_rfl) ?_
                        refine W_nil ?_
                        refine N_then ?_
                        rcases gx_bif hm with ⟨hc4278, hm⟩ | ⟨hc4278, hm⟩
                        · refine G_cond_t (b := (decide (r4274 < 0))) hc4278 (by kernel_rfl) ?_
                          refine G_seq ?_
                          refine G_region ?_
                          refine W_run 1 [(4, .bool false)] w4275 (by kernel_rfl) ?_
                          refine W_nil ?_
                          refine N_then ?_
                          refine G_ret ?_
                          refine N_then_ret ?_
                          obtain rfl := Option.some.inj hm
                          refine N_ret [.bool false] (RVs_cons (RV_tmp (by kernel_rfl)) RVs_nil) ?_
                          exact ⟨rfl, M4277.pick [] (by kernel_rfl)⟩
                        · refine G_cond_f (b := (decide (r4274 < 0))) hc4278 (by kernel_rfl) ?_
                          refine G_skip ?_
                          refine N_then ?_
                          refine G_seq ?_
                          refine G_seq ?_
                          refine G_region ?_
                          refine W_run 3 [(100, .bool (r4274 != r4217.1))] w4275 (by kernel_rfl) ?_
                          refine W_nil ?_
                          refine N_then ?_
                          rcases gx_bif hm with ⟨hc4279, hm⟩ | ⟨hc4279, hm⟩
                          · refine G_cond_t (b := (r4274 != r4217.1)) hc4279 (by kernel_rfl) ?_
                            refine G_seq ?_
                            refine G_region ?_
                            refine W_run 1 [(4, .bool false)] w4275 (by kernel_rfl) ?_
                            refine W_nil ?_
                            refine N_then ?_
                            refine G_ret ?_
                            refine N_then_ret ?_
                            obtain rfl := Option.some.inj hm
                            refine N_ret [.bool false] (RVs_cons (RV_tmp (by kernel_rfl)) RVs_nil) ?_
                            exact ⟨rfl, M4277.pick [] (by kernel_rfl)⟩
                          · refine G_cond_f (b := (r4274 != r4217.1)) hc4279 (by kernel_rfl) ?_
                            refine G_skip ?_
                            refine N_then ?_
                            refine G_seq ?_
                            refine G_region ?_
                            refine W_run 1 [(4, .bool true)] w4275 (by kernel_rfl) ?_
                            refine W_nil ?_
                            refine N_then ?_
                            refine G_ret ?_
                            obtain rfl := Option.some.inj hm
                            refine N_ret [.bool true] (RVs_cons (RV_tmp (by kernel_rfl)) RVs_nil) ?_
                            exact ⟨rfl, M4277.pick [] (by kernel_rfl)⟩
theorem c_s_PutWord (w : World) (x4304 : Ring) (p4306 : Option Addr) (c4307 : Nat) (h4308 : rdS encI w x4304.Items p4306 c4307) (x4309 : Int) {r : Ring × Bool} (hm : M.s_PutWord x4304 x4309 = some r) :
    Calls Try.prog 36 #[.agg #[.slice p4306 x4304.Items.length c4307, .int .i64 x4304.Head, .int .i64 x4304.Tail], .int .i64 x4309] w fun e w' => ∃ (p4311 : Option Addr) (c4312 : Nat) (sg4313 : Seg), e = .returned (.tuple #[.agg #[.slice p4311 r.1.Items.length c4312, .int .i64 r.1.Head, .int .i64 r.1.Tail], .bool r.2]) ∧ ownS encI r.1.Items p4311 c4312 sg4313 ∧ Mem [] w w' [sg4313] := by
  unfold M.s_PutWord at hm
  refine C_enter Try.func36 rfl (by kernel_rfl) ?_
  have M0 := Mem.refl [] w
  refine G_seq ?_
  refine G_region ?_
  refine W_new (fun b => .pointer (some ⟨b, 0, none⟩)) (.cells ⟨[.slice p4306 x4304.Items.length c4307, .int .i64 x4304.Head, .int .i64 x4304.Tail]⟩ 27 (0, 0)) M0 rfl (by kernel_rfl) (by kernel_rfl) ?_
  intro b4315 w4316 M4317
  refine W_new (fun b => .pointer (some ⟨b, 0, none⟩)) (.cells ⟨[.slice none 0 0, .int .i64 0, .int .i64 0]⟩ 27 (0, 0)) M4317 rfl (by kernel_rfl) (by kernel_rfl) ?_
  intro b4320 w4321 M4322
  refine W_run 1 [(1, .int .i64 x4309), (2, .pointer (some ⟨b4315, 0, none⟩)), (4, .pointer (some ⟨b4320, 0, none⟩))] w4321 (by kernel_rfl) ?_
  refine W_nil ?_
  refine N_then ?_
  refine G_seq ?_
  refine G_seq ?_
  obtain ⟨o4332, ho4333, hm4334⟩ := gx_bind hm
  refine G_meet (fun a w' => Mem [] w w' [[(b4315, .cells ⟨[.slice p4306 x4304.Items.length c4307, .int .i64 x4304.Head, .int .i64 x4304.Tail]⟩ 27 (0, 0))], [(b4320, .cells ⟨[.slice none 0 0, .int .i64 0, .int .i64 0]⟩ 27 (0, 0))]] ∧ Sat Try.f36.ntmps [(1, .int .i64 x4309), (2, .pointer (some ⟨b4315, 0, none⟩)), (4, .pointer (some ⟨b4320, 0, none⟩)), (15, .bool o4332)] a) ?_ ?_
  · have hm := ho4333
    refine G_region ?_
    refine W_val (.agg #[.slice p4306 x4304.Items.length c4307, .int .i64 x4304.Head, .int .i64 x4304.Tail]) w4321 (by kernel_rfl) (E_load (e := 27) (fr := (0, 0)) _ _ true 3 b4315 0 [.slice p4306 x4304.Items.length c4307, .int .i64 x4304.Head, .int .i64 x4304.Tail] (.agg #[.slice p4306 x4304.Items.length c4307, .int .i64 x4304.Head, .int .i64 x4304.Tail]) rfl (by kernel_rfl) (by kernel_rfl) (by kernel_rfl) (M4322.blk 0 (b := b4315) (o := .cells ⟨[.slice p4306 x4304.Items.length c4307, .int .i64 x4304.Head, .int .i64 x4304.Tail]⟩ 27 (0, 0)) (by kernel_rfl))) ?_
    obtain ⟨r4335, hr4335, hm⟩ := gx_bind hm
    refine W_call 58 #[.agg #[.slice p4306 x4304.Items.length c4307, .int .i64 x4304.Head, .int .i64 x4304.Tail]] (by kernel_rfl) (by kernel_rfl) ?_
    refine (c_s_l20Good w4321 x4304 p4306 c4307 (h4308.mem0 M4322) hr4335).mono ?_
    rintro e_ w4336 ⟨rfl, K4337⟩
    have M4338 := M4322.call0 K4337
    refine ⟨_, rfl, ?_⟩
    refine W_run 2 [(1, .int .i64 x4309), (2, .pointer (some ⟨b4315, 0, none⟩)), (4, .pointer (some ⟨b4320, 0, none⟩)), (11, .bool (!r4335))] w4336 (by kernel_rfl) ?_
    rcases gx_bif hm with ⟨hc4339, hm⟩ | ⟨hc4339, hm⟩
    · refine W_known 11 true (by kernel_rfl) hc4339 ?_
      refine W_run 4 [(1, .int .i64 x4309), (2, .pointer (some ⟨b4315, 0, none⟩)), (4, .pointer (some ⟨b4320, 0, none⟩)), (15, .bool true)] w4336 (by kernel_rfl) ?_
      refine W_nil ?_
      obtain rfl := Option.some.inj hm
      exact N_meet fun a ha => ⟨M4338.pick [0, 1] (by kernel_rfl), ha.sub (by kernel_rfl)⟩
    · refine W_known 11 false (by kernel_rfl) hc4339 ?_
      refine W_run 1 [(1, .int .i64 x4309), (2, .pointer (some ⟨b4315, 0, none⟩)), (4, .pointer (some ⟨b4320, 0, none⟩)), (11, .bool false), (12, .int .i64 x4309)] w4336 (by kernel_rfl) ?_
      obtain ⟨r4340, hr4340, hm⟩ := gx_bind hm
      refine W_call 52 #[.int .i64 x4309] (by kernel_rfl) (by kernel_rfl) ?_
      refine (c_s_l2Word16 w4336 x4309 hr4340).mono ?_
      rintro e_ w4341 ⟨rfl, K4342⟩
      have M4343 := M4338.call0 K4342
      refine ⟨_, rfl, ?_⟩
      refine W_run 2 [(1, .int .i64 x4309), (2, .pointer (some ⟨b4315, 0, none⟩)), (4, .pointer (some ⟨b4320, 0, none⟩)), (15, .bool (!r4340))] w4341 (by kernel_rfl) ?_
      refine W_nil ?_
      obtain rfl := Option.some.inj hm
      exact N_meet fun a ha => ⟨M4343.pick [0, 1] (by kernel_rfl), ha.sub (by kernel_rfl)⟩
  · intro a4346 w4344 ⟨M4345, hS4347⟩
    refine N_use hS4347 ?_
    have hm := hm4334
    refine N_then ?_
    rcases gx_bif hm with ⟨hc4348, hm⟩ | ⟨hc4348, hm⟩
    · refine G_cond_t (b := o4332) hc4348 (by kernel_rfl) ?_
      refine G_seq ?_
      refine G_region ?_
      refine W_run 1 [(4, .pointer (some ⟨b4320, 0, none⟩)), (16, .agg #[.slice none 0 0, .int .i64 0, .int .i64 0])] w4344 (by kernel_rfl) ?_
      refine W_store _ _ _ true 3 b4320 0 [.slice none 0 0, .int .i64 0, .int .i64 0] 27 (.agg #[.slice none 0 0, .int .i64 0, .int .i64 0]) 1 [.slice none 0 0, .int .i64 0, .int .i64 0] M4345 (by kernel_rfl) rfl (by kernel_rfl) (by kernel_rfl) (by kernel_rfl) (by kernel_rfl) (by kernel_rfl) (by kernel_rfl) (by kernel_rfl) (by kernel_rfl) ?_
      intro w4350 M4351
      refine W_run 1 [(4, .pointer (some ⟨b4320, 0, none⟩)), (5, .bool false)] w4350 (by kernel_rfl) ?_
      refine W_nil ?_
      refine N_then ?_
      refine G_ret ?_
      refine N_then_ret ?_
      obtain rfl := Option.some.inj hm
      refine N_ret [.agg #[.slice none 0 0, .int .i64 0, .int .i64 0], .bool false] (RVs_cons (RV_cell (g := true) (k := 3) (b := b4320) (off := 0) (cs := [.slice none 0 0, .int .i64 0, .int .i64 0]) (e := 27) (fr := (0, 0)) (v := .agg #[.slice none 0 0, .int .i64 0, .int .i64 0]) (M4351.blk 1 (b := b4320) (o := .cells ⟨[.slice none 0 0, .int .i64 0, .int .i64 0]⟩ 27 (0, 0)) (by kernel_rfl)) (by kernel_rfl) (by kernel_rfl) (by kernel_rfl)) (RVs_cons (RV_tmp (by kernel_rfl)) RVs_nil)) ?_
      exact ⟨none, 0, [], rfl, ownS_nil, M4351.pick [100000] (by kernel_rfl)⟩
    · refine G_cond_f (b := o4332) hc4348 (by kernel_rfl) ?_
      refine G_skip ?_
      refine N_then ?_
      refine G_seq ?_
      refine G_region ?_
      refine W_val (.agg #[.slice p4306 x4304.Items.length c4307, .int .i64 x4304.Head, .int .i64 x4304.Tail]) w4344 (by kernel_rfl) (E_load (e := 27) (fr := (0, 0)) _ _ true 3 b4315 0 [.slice p4306 x4304.Items.length c4307, .int .i64 x4304.Head, .int .i64 x4304.Tail] (.agg #[.slice p4306 x4304.Items.length c4307, .int .i64 x4304.Head, .int .i64 x4304.Tail]) rfl (by kernel_rfl) (by kernel_rfl) (by kernel_rfl) (M4345.blk 0 (b := b4315) (o := .cells ⟨[.slice p4306 x4304.Items.length c4307, .int .i64 x4304.Head, .int .i64 x4304.Tail]⟩ 27 (0, 0)) (by kernel_rfl))) ?_
      refine W_run 1 [(4, .pointer (some ⟨b4320, 0, none⟩)), (18, .agg #[.slice p4306 x4304.Items.length c4307, .int .i64 x4304.Head, .int .i64 x4304.Tail]), (19, .int .i64 x4309)] w4344 (by kernel_rfl) ?_
      obtain ⟨r4352, hr4352, hm⟩ := gx_bind hm
      refine W_call 67 #[.agg #[.slice p4306 x4304.Items.length c4307, .int .i64 x4304.Head, .int .i64 x4304.Tail], .int .i64 x4309] (by kernel_rfl) (by kernel_rfl) ?_
      refine (c_s_l20Put w4344 x4304 p4306 c4307 (h4308.mem0 M4345) x4309 hr4352).mono ?_
      rintro e_ w4358 ⟨p4354, c4355, sg4356, rfl, ho4357, K4359⟩
      have M4360 := M4345.call K4359
      refine ⟨_, rfl, ?_⟩
      refine W_run 3 [(4, .pointer (some ⟨b4320, 0, none⟩)), (21, .agg #[.slice p4354 r4352.1.Items.length c4355, .int .i64 r4352.1.Head, .int .i64 r4352.1.Tail]), (22, .bool r4352.2)] w4358 (by kernel_rfl) ?_
      refine W_new (fun b => .pointer (some ⟨b, 0, none⟩)) (.cells ⟨[.slice none 0 0, .int .i64 0, .int .i64 0]⟩ 27 (0, 0)) M4360 rfl (by kernel_rfl) (by kernel_rfl) ?_
      intro b4363 w4364 M4365
      refine W_store _ _ _ true 3 b4363 0 [.slice none 0 0, .int .i64 0, .int .i64 0] 27 (.agg #[.slice p4354 r4352.1.Items.length c4355, .int .i64 r4352.1.Head, .int .i64 r4352.1.Tail]) 3 [.slice p4354 r4352.1.Items.length c4355, .int .i64 r4352.1.Head, .int .i64 r4352.1.Tail] M4365 (by kernel_rfl) rfl (by kernel_rfl) (by kernel_rfl) (by kernel_rfl) (by kernel_rfl) (by kernel_rfl) (by kernel_rfl) (by kernel_rfl) (by kernel_rfl) ?_
      intro w4366 M4367
      refine W_run 1 [(4, .pointer (some ⟨b4320, 0, none⟩)), (6, .pointer (some ⟨b4363, 0, none⟩)), (7, .bool r4352.2)] w4366 (by kernel_rfl) ?_
      refine W_nil ?_
      refine N_then ?_
      refine G_seq ?_
      refine G_seq ?_
      refine G_region ?_
      refine W_run 2 [(4, .pointer (some ⟨b4320, 0, none⟩)), (6, .pointer (some ⟨b4363, 0, none⟩)), (24, .bool (!r4352.2))] w4366 (by kernel_rfl) ?_
      refine W_nil ?_
      refine N_then ?_
      rcases gx_bif hm with ⟨hc4368, hm⟩ | ⟨hc4368, hm⟩
      · refine G_cond_t (b := (!r4352.2)) hc4368 (by kernel_rfl) ?_
        refine G_seq ?_
        refine G_region ?_
        refine W_run 1 [(4, .pointer (some ⟨b4320, 0, none⟩)), (25, .agg #[.slice none 0 0, .int .i64 0, .int .i64 0])] w4366 (by kernel_rfl) ?_
        refine W_store _ _ _ true 3 b4320 0 [.slice none 0 0, .int .i64 0, .int .i64 0] 27 (.agg #[.slice none 0 0, .int .i64 0, .int .i64 0]) 1 [.slice none 0 0, .int .i64 0, .int .i64 0] M4367 (by kernel_rfl) rfl (by kernel_rfl) (by kernel_rfl) (by kernel_rfl) (by kernel_rfl) (by kernel_rfl) (by kernel_rfl) (by kernel_rfl) (by kernel_rfl) ?_
        intro w4370 M4371
        refine W_run 1 [(4, .pointer (some ⟨b4320, 0, none⟩)), (5, .bool false)] w4370 (by kernel_rfl) ?_
        refine W_nil ?_
        refine N_then ?_
        refine G_ret ?_
        refine N_then_ret ?_
        obtain rfl := Option.some.inj hm
        refine N_ret [.agg #[.slice none 0 0, .int .i64 0, .int .i64 0], .bool false] (RVs_cons (RV_cell (g := true) (k := 3) (b := b4320) (off := 0) (cs := [.slice none 0 0, .int .i64 0, .int .i64 0]) (e := 27) (fr := (0, 0)) (v := .agg #[.slice none 0 0, .int .i64 0, .int .i64 0]) (M4371.blk 1 (b := b4320) (o := .cells ⟨[.slice none 0 0, .int .i64 0, .int .i64 0]⟩ 27 (0, 0)) (by kernel_rfl)) (by kernel_rfl) (by kernel_rfl) (by kernel_rfl)) (RVs_cons (RV_tmp (by kernel_rfl)) RVs_nil)) ?_
        exact ⟨none, 0, [], rfl, ownS_nil, M4371.pick [100000] (by kernel_rfl)⟩
      · refine G_cond_f (b := (!r4352.2)) hc4368 (by kernel_rfl) ?_
        refine G_skip ?_
        refine N_then ?_
        refine G_seq ?_
        refine G_region ?_
        refine W_val (.agg #[.slice p4354 r4352.1.Items.length c4355, .int .i64 r4352.1.Head, .int .i64 r4352.1.Tail]) w4366 (by kernel_rfl) (E_load (e := 27) (fr := (0, 0)) _ _ true 3 b4363 0 [.slice p4354 r4352.1.Items.length c4355, .int .i64 r4352.1.Head, .int .i64 r4352.1.Tail] (.agg #[.slice p4354 r4352.1.Items.length c4355, .int .i64 r4352.1.Head, .int .i64 r4352.1.Tail]) rfl (by kernel_rfl) (by kernel_rfl) (by kernel_rfl) (M4367.blk 3 (b := b4363) (o := .cells ⟨[.slice p4354 r4352.1.Items.length c4355, .int .i64 r4352.1.Head, .int .i64 r4352.1.Tail]⟩ 27 (0, 0)) (by kernel_rfl))) ?_
        refine W_store _ _ _ true 3 b4320 0 [.slice none 0 0, .int .i64 0, .int .i64 0] 27 (.agg #[.slice p4354 r4352.1.Items.length c4355, .int .i64 r4352.1.Head, .int .i64 r4352.1.Tail]) 1 [.slice p4354 r4352.1.Items.length c4355, .int .i64 r4352.1.Head, .int .i64 r4352.1.Tail] M4367 (by kernel_rfl) rfl (by kernel_rfl) (by kernel_rfl) (by kernel_rfl) (by kernel_rfl) (by kernel_rfl) (by kernel_rfl) (by kernel_rfl) (by kernel_rfl) ?_
        intro w4372 M4373
        refine W_run 1 [(4, .pointer (some ⟨b4320, 0, none⟩)), (5, .bool true)] w4372 (by kernel_rfl) ?_
        refine W_nil ?_
        refine N_then ?_
        refine G_ret ?_
        obtain rfl := Option.some.inj hm
        refine N_ret [.agg #[.slice p4354 r4352.1.Items.length c4355, .int .i64 r4352.1.Head, .int .i64 r4352.1.Tail], .bool true] (RVs_cons (RV_cell (g := true) (k := 3) (b := b4320) (off := 0) (cs := [.slice p4354 r4352.1.Items.length c4355, .int .i64 r4352.1.Head, .int .i64 r4352.1.Tail]) (e := 27) (fr := (0, 0)) (v := .agg #[.slice p4354 r4352.1.Items.length c4355, .int .i64 r4352.1.Head, .int .i64 r4352.1.Tail]) (M4373.blk 1 (b := b4320) (o := .cells ⟨[.slice p4354 r4352.1.Items.length c4355, .int .i64 r4352.1.Head, .int .i64 r4352.1.Tail]⟩ 27 (0, 0)) (by kernel_rfl)) (by kernel_rfl) (by kernel_rfl) (by kernel_rfl)) (RVs_cons (RV_tmp (by kernel_rfl)) RVs_nil)) ?_
        exact ⟨p4354, c4355, sg4356, rfl, ho4357, M4373.pick [2] (by kernel_rfl)⟩
theorem c_i_PutWords_1 (w : World) (x4472 : Int) {r : Bool} (hm : M.i_PutWords_1 x4472 = some r) :
    Calls Try.prog 69 #[.int .i64 x4472] w fun e w' => e = .returned (.bool r) ∧ Mem [] w w' [] := by
  unfold M.i_PutWords_1 at hm
  refine C_enter Try.func69 rfl (by kernel_rfl) ?_
  have M0 := Mem.refl [] w
  refine G_seq ?_
  refine G_region ?_
  refine W_run 1 [(0, .int .i64 x4472)] w (by kernel_rfl) ?_
  refine W_nil ?_
  refine N_then ?_
  refine G_seq ?_
  refine G_region ?_
  refine W_run 1 [(3, .int .i64 x4472)] w (by kernel_rfl) ?_
  obtain ⟨r4473, hr4473, hm⟩ := gx_bind hm
  refine W_call 53 #[.int .i64 x4472] (by kernel_rfl) (by kernel_rfl) ?_
  refine (c_i_isWord16 w x4472 hr4473).mono ?_
  rintro e_ w4474 ⟨rfl, K4475⟩
  have M4476 := M0.call0 K4475
  refine ⟨_, rfl, ?_⟩
  refine W_run 2 [(2, .bool (!r4473))] w4474 (by kernel_rfl) ?_
  refine W_nil ?_
  refine N_then ?_
  refine G_ret ?_
  obtain rfl := Option.some.inj hm
  refine N_ret [.bool (!r4473)] (RVs_cons (RV_tmp (by kernel_rfl)) RVs_nil) ?_
  exact ⟨rfl, M4476.pick [] (by kernel_rfl)⟩
theorem c_slices_IndexFunc_79__i_PutWords_1 (w : World) (x4465 : List Int) (p4467 : Option Addr) (c4468 : Nat) (h4469 : rdS encI w x4465 p4467 c4468) {r : Int} (hm : M.slices_IndexFunc_79__i_PutWords_1 x4465 = some r) :
    Calls Try.prog 79 #[.slice p4467 x4465.length c4468, .func (.func 69) #[] #[]] w fun e w' => e = .returned (.int .i64 r) ∧ Mem [] w w' [] := by
  unfold M.slices_IndexFunc_79__i_PutWords_1 at hm
  refine C_enter Try.func79 rfl (by kernel_rfl) ?_
  have M0 := Mem.refl [] w
  refine G_seq ?_
  refine G_region ?_
  refine W_run 1 [(0, .slice p4467 x4465.length c4468), (1, .func (.func 69) #[] #[])] w (by kernel_rfl) ?_
  refine W_nil ?_
  refine N_then ?_
  refine G_seq ?_
  refine G_seq ?_
  refine G_region ?_
  refine W_run 3 [(0, .slice p4467 x4465.length c4468), (1, .func (.func 69) #[] #[]), (7, .int .i64 (x4465.length : Int)), (8, .int .i64 0)] w (by kernel_rfl) ?_
  refine W_nil ?_
  refine N_then ?_
  obtain ⟨out4496, hw4497, hmo4498⟩ := gx_bind hm
  refine G_meet (fun a w' => ∃ (o4499 : Unit), out4496 = .inl o4499 ∧ Mem [] w w' [] ∧ Sat Try.f79.ntmps [] a) ?_ ?_
  · refine G_block ?_
    refine G_while (σ := Int) (ρ := (Unit) ⊕ (Int)) (fun s4489 a w' => Mem [] w w' [] ∧ Sat Try.f79.ntmps [(0, .slice p4467 x4465.length c4468), (1, .func (.func 69) #[] #[]), (7, .int .i64 (x4465.length : Int)), (8, .int .i64 s4489)] a) hw4497 (fun a ha => ⟨M0.pick [] (by kernel_rfl), ha.sub (by kernel_rfl)⟩) ?_
    clear hm
    intro s4489 x4490 hm hout4491 a4492 w4493 ⟨M4494, hS4495⟩
    refine G_use hS4495 ?_
    refine G_seq ?_
    refine G_region ?_
    refine W_run 1 [(0, .slice p4467 x4465.length c4468), (1, .func (.func 69) #[] #[]), (7, .int .i64 (x4465.length : Int)), (8, .int .i64 s4489), (9, .bool (decide (s4489 < (x4465.length : Int))))] w4493 (by kernel_rfl) ?_
    refine W_nil ?_
    refine N_then ?_
    refine G_seq ?_
    rcases gx_bif hm with ⟨hc4500, hm⟩ | ⟨hc4500, hm⟩
    · refine G_cond_t (b := (decide (s4489 < (x4465.length : Int)))) hc4500 (by kernel_rfl) ?_
      refine G_skip ?_
      refine N_then ?_
      refine G_seq ?_
      refine G_block ?_
      refine G_seq ?_
      refine G_region ?_
      refine W_run 2 [(0, .slice p4467 x4465.length c4468), (1, .func (.func 69) #[] #[]), (5, .int .i64 s4489), (7, .int .i64 (x4465.length : Int)), (8, .int .i64 s4489)] w4493 (by kernel_rfl) ?_
      refine W_nil ?_
      refine N_then ?_
      refine G_seq ?_
      refine G_region ?_
      refine W_run 3 [(0, .slice p4467 x4465.length c4468), (1, .func (.func 69) #[] #[]), (5, .int .i64 s4489), (7, .int .i64 (x4465.length : Int)), (8, .int .i64 s4489), (11, .func (.func 69) #[] #[]), (12, .slice p4467 x4465.length c4468), (13, .int .i64 s4489)] w4493 (by kernel_rfl) ?_
      obtain ⟨y4501, hy4501, hm⟩ := gx_bind hm
      refine W_val (elemP p4467 (s4489.toNat * 1)) w4493 (by kernel_rfl) (E_index (E := encI) _ _ _ x4465.length c4468 .i64 s4489 1 (y := y4501) rfl (by kernel_rfl) (by kernel_rfl) (by kernel_rfl) (h4469.mem0 M4494) rfl hy4501) ?_
      refine W_val (.int .i64 y4501) w4493 (by kernel_rfl) (E_loadE (E := encI) _ _ false 1 s4489 0 (s4489.toNat * 1) y4501 (.int .i64 y4501) rfl (by kernel_rfl) (by kernel_rfl) (by kernel_rfl) (h4469.mem0 M4494) hy4501 rfl) ?_
      obtain ⟨r4502, hr4502, hm⟩ := gx_bind hm
      refine W_call 69 #[.int .i64 y4501] (by kernel_rfl) (by kernel_rfl) ?_
      refine (c_i_PutWords_1 w4493 y4501 hr4502).mono ?_
      rintro e_ w4503 ⟨rfl, K4504⟩
      have M4505 := M4494.call0 K4504
      refine ⟨_, rfl, ?_⟩
      refine W_nil ?_
      refine N_then ?_
      rcases gx_bif hm with ⟨hc4506, hm⟩ | ⟨hc4506, hm⟩
      · refine G_cond_t (b := r4502) hc4506 (by kernel_rfl) ?_
        refine G_seq ?_
        refine G_region ?_
        refine W_run 2 [(4, .int .i64 s4489)] w4503 (by kernel_rfl) ?_
        refine W_nil ?_
        refine N_then ?_
        refine G_ret ?_
        refine N_block_ret ?_
        refine N_then_ret ?_
        refine N_then_ret ?_
        obtain rfl := Option.some.inj hm
        obtain rfl := hout4491 _ rfl
        have hm := hmo4498; simp only [Sum.elim_inr] at hm
        refine N_block_ret ?_
        refine N_meet_ret ?_
        refine N_then_ret ?_
        obtain rfl := Option.some.inj hm
        refine N_ret [.int .i64 s4489] (RVs_cons (RV_tmp (by kernel_rfl)) RVs_nil) ?_
        exact ⟨rfl, M4505.pick [] (by kernel_rfl)⟩
      · refine G_cond_f (b := r4502) hc4506 (by kernel_rfl) ?_
        refine G_skip ?_
        refine N_block ?_
        refine N_then ?_
        refine G_region ?_
        refine W_run 2 [(0, .slice p4467 x4465.length c4468), (1, .func (.func 69) #[] #[]), (7, .int .i64 (x4465.length : Int)), (8, .int .i64 (w64 (s4489 + 1)))] w4503 (by kernel_rfl) ?_
        refine W_nil ?_
        obtain rfl := Option.some.inj hm
        exact N_loop fun a ha => ⟨_, rfl, M4505.pick [] (by kernel_rfl), ha.sub (by kernel_rfl)⟩
    · refine G_cond_f (b := (decide (s4489 < (x4465.length : Int)))) hc4500 (by kernel_rfl) ?_
      refine G_exit ?_
      refine N_then_exit ?_
      refine N_then_exit ?_
      refine N_block_eq ?_
      obtain rfl := Option.some.inj hm
      obtain rfl := hout4491 _ rfl
      exact N_meet fun a ha => ⟨_, rfl, M4494.pick [] (by kernel_rfl), ha.sub (by kernel_rfl)⟩
  · intro a4507 w4508 ⟨o4499, hout_, M4509, hS4510⟩
    refine N_use hS4510 ?_
    subst hout_
    have hm := hmo4498; simp only [Sum.elim_inl] at hm
    refine N_then ?_
    refine G_seq ?_
    refine G_region ?_
    refine W_run 1 [(4, .int .i64 (-1))] w4508 (by kernel_rfl) ?_
    refine W_nil ?_
    refine N_then ?_
    refine G_ret ?_
    obtain rfl := Option.some.inj hm
    refine N_ret [.int .i64 (-1)] (RVs_cons (RV_tmp (by kernel_rfl)) RVs_nil) ?_
    exact ⟨rfl, M4509.pick [] (by kernel_rfl)⟩
theorem c_slices_ContainsFunc_68__i_PutWords_1 (w : World) (x4460 : List Int) (p4462 : Option Addr) (c4463 : Nat) (h4464 : rdS encI w x4460 p4462 c4463) {r : Bool} (hm : M.slices_ContainsFunc_68__i_PutWords_1 x4460 = some r) :
    Calls Try.prog 68 #[.slice p4462 x4460.length c4463, .func (.func 69) #[] #[]] w fun e w' => e = .returned (.bool r) ∧ Mem [] w w' [] := by
  unfold M.slices_ContainsFunc_68__i_PutWords_1 at hm
  refine C_enter Try.func68 rfl (by kernel_rfl) ?_
  have M0 := Mem.refl [] w
  refine G_seq ?_
  refine G_region ?_
  refine W_run 1 [(0, .slice p4462 x4460.length c4463), (1, .func (.func 69) #[] #[])] w (by kernel_rfl) ?_
  refine W_nil ?_
  refine N_then ?_
  refine G_seq ?_
  refine G_region ?_
  refine W_run 2 [(5, .slice p4462 x4460.length c4463), (6, .func (.func 69) #[] #[])] w (by kernel_rfl) ?_
  obtain ⟨r4511, hr4511, hm⟩ := gx_bind hm
  refine W_call 79 #[.slice p4462 x4460.length c4463, .func (.func 69) #[] #[]] (by kernel_rfl) (by kernel_rfl) ?_
  refine (c_slices_IndexFunc_79__i_PutWords_1 w x4460 p4462 c4463 (h4464.mem0 M0) hr4511).mono ?_
  rintro e_ w4512 ⟨rfl, K4513⟩
  have M4514 := M0.call0 K4513
  refine ⟨_, rfl, ?_⟩
  refine W_run 2 [(4, .bool (decide (r4511 ≥ 0)))] w4512 (by kernel_rfl) ?_
  refine W_nil ?_
  refine N_then ?_
  refine G_ret ?_
  obtain rfl := Option.some.inj hm
  refine N_ret [.bool (decide (r4511 ≥ 0))] (RVs_cons (RV_tmp (by kernel_rfl)) RVs_nil) ?_
  exact ⟨rfl, M4514.pick [] (by kernel_rfl)⟩
end Go.Proofs.Ytopnablbecepjaa
